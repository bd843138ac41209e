/-
  A transaction in the machine's heap: what each of its methods does.
-/
import Derived.Test.YtpmdbbdidafehaaGeom
set_option linter.unusedVariables false
set_option linter.unusedSimpArgs false
set_option maxRecDepth 10000
namespace Go.Proofs.Ytpmdbbdidafehaa.draft
open Go.Am

/-- ashlar/draft.New -/
noncomputable def c9 : CFn := ⟨[.tmp (pp 2), .tmp (pp 3)],
 .seq (.reg [
 qo 1 (.m (boxF 3 (tt 0))) [pp 0],
 qo 2 (.p (S.get (.c (.ptr none)))) [],
 qo 3 (.p (S.get (ii 0))) []]) (
 .seq (.seq (.reg [
 qo 4 (.r (loadF (tt 1) 3 .ag)) [pp 1],
 qo 5 (.c (callF (ff 43) [(tt 4)])) [pp 4],
 qo 6 (.p (unF .not (tt 5))) [pp 5]]) (
 .cond (tt 6) (.seq (.reg [
 qo 2 (.p (S.get (.c (.ptr none)))) [],
 qo 3 (.p (S.get (ii 2))) []]) (
 .ret)) (.skip))) (
 .seq (.reg [
 qo 7 (.r (loadF (tt 1) 3 .ag)) [pp 1],
 qo 8 (.m mkmapF) [],
 qo 9 (.p (buildF [.int .i64 0, .int .i64 0, .int .i64 0, .map none] .ag [(0, 3, (tt 7)), (3, 1, (tt 8))])) [pp 7, pp 8],
 qo 10 (.m (boxF 4 (tt 9))) [pp 9],
 mv 2 10,
 qo 3 (.p (S.get (ii 0))) []]) (
 .ret)))⟩
theorem c9_eq : fnOf Try.prog 9 = some c9 := by kernel_rfl

/-- (*ashlar/draft.Draft).none -/
noncomputable def c44 : CFn := ⟨[.tmp (pp 2)],
 .seq (.reg [
 qo 2 (.p (S.get (.c (.bool false)))) []]) (
 .seq (.reg [
 mv 3 0,
 qo 4 (.r (eqnF false .ptr (tt 3) (.c (.ptr none)))) [pp 3],
 mv 5 4,
 mg 6 0 5 false,
 qg 7 (.p (nilcF (tt 6))) 5 false [pp 6],
 qg 8 (.p (faddrF (tt 7) 3)) 5 false [pp 7],
 qg 9 (.r (loadF (tt 8) 1 .sc)) 5 false [pp 8],
 qg 10 (.r (eqnF false .map (tt 9) (.c (.map none)))) 5 false [pp 9],
 qo 11 (.p (pickF (tt 5) (.c (.bool true)) (tt 10))) [pp 5, pp 10],
 mv 2 11]) (
 .ret))⟩
theorem c44_eq : fnOf Try.prog 44 = some c44 := by kernel_rfl

/-- (*ashlar/draft.Draft).Write -/
noncomputable def c12 : CFn := ⟨[.tmp (pp 6)],
 .seq (.reg [
 qo 5 (.m (boxF 64 (tt 2))) [pp 2],
 qo 6 (.p (S.get (ii 0))) []]) (
 .seq (.seq (.reg [
 mv 9 0,
 qo 10 (.c (callF (ff 44) [(tt 9)])) [pp 9]]) (
 .cond (tt 10) (.seq (.reg [
 qo 6 (.p (S.get (ii 1))) []]) (
 .ret)) (.skip))) (
 .seq (.reg [
 mv 12 0,
 qo 13 (.p (nilcF (tt 12))) [pp 12],
 qo 14 (.p (faddrF (tt 13) 3)) [pp 13],
 qo 15 (.r (loadF (tt 14) 1 .sc)) [pp 14],
 mv 16 1,
 qo 17 (.r (lookF (.blk 0) true (tt 15) (tt 16))) [pp 15, pp 16],
 mv 11 17,
 qo 18 (.p (extF (tt 11) 0)) [pp 11],
 qo 19 (.p (extF (tt 11) 1)) [pp 11],
 qo 7 (.m (allocF 64 [.blk 0])) [],
 qn (.a (storeF (tt 7) (tt 18) 64)) [pp 7, pp 18],
 mv 8 19]) (
 .seq (.block 0 (.seq (.reg [
 mv 21 1,
 qo 22 (.p (arF .lss (tt 21) (ii 0))) [pp 21],
 mv 23 22,
 mg 24 1 23 false,
 mg 25 0 23 false,
 qg 26 (.p (nilcF (tt 25))) 23 false [pp 25],
 qg 27 (.p (faddrF (tt 26) 0)) 23 false [pp 26],
 qg 28 (.r (loadF (tt 27) 3 .ag)) 23 false [pp 27],
 qg 29 (.c (callF (ff 45) [(tt 28)])) 23 false [pp 28],
 qg 30 (.p (arF .geq (tt 24) (tt 29))) 23 false [pp 24, pp 29],
 qo 31 (.p (pickF (tt 23) (.c (.bool true)) (tt 30))) [pp 23, pp 30],
 mv 20 31]) (
 .cond (tt 20) (.seq (.reg [
 qo 6 (.p (S.get (ii 12))) []]) (
 .ret)) (.seq (.reg [
 mv 33 8,
 qo 34 (.p (unF .not (tt 33))) [pp 33],
 mv 35 34,
 mg 36 0 35 true,
 qg 37 (.p (nilcF (tt 36))) 35 true [pp 36],
 qg 38 (.p (faddrF (tt 37) 3)) 35 true [pp 37],
 qg 39 (.r (loadF (tt 38) 1 .sc)) 35 true [pp 38],
 qg 40 (.r (lenMF (tt 39))) 35 true [pp 39],
 qg 41 (.p (arF .geq (tt 40) (ii 16))) 35 true [pp 40],
 qo 42 (.p (pickF (tt 35) (tt 41) (.c (.bool false)))) [pp 35, pp 41],
 mv 32 42]) (
 .cond (tt 32) (.seq (.reg [
 qo 6 (.p (S.get (ii 11))) []]) (
 .ret)) (.skip)))))) (
 .seq (.regD [
 mv 43 0,
 qo 44 (.p (nilcF (tt 43))) [pp 43],
 qo 45 (.p (faddrF (tt 44) 3)) [pp 44],
 qo 46 (.r (loadF (tt 45) 1 .sc)) [pp 45],
 mv 47 1,
 qo 48 (.r (loadF (tt 5) 64 .bk)) [pp 5],
 qn (.a (updF (tt 46) (tt 47) (tt 48))) [pp 46, pp 47, pp 48]] [0, 1, 3, 7, 0, 0, 63]) (
 .seq (.reg [
 qo 6 (.p (S.get (ii 0))) []]) (
 .ret))))))⟩
theorem c12_eq : fnOf Try.prog 12 = some c12 := by kernel_rfl

/-- (*ashlar/draft.Draft).Read -/
noncomputable def c14 : CFn := ⟨[.cell (pp 4) 64 .bk, .tmp (pp 5)],
 .seq (.reg [
 qo 4 (.m (allocF 64 [.blk 0])) [],
 qo 5 (.p (S.get (.c (.bool false)))) []]) (
 .seq (.seq (.reg [
 mv 8 0,
 qo 9 (.c (callF (ff 44) [(tt 8)])) [pp 8]]) (
 .cond (tt 9) (.seq (.reg [
 qo 10 (.p (buildF [.blk 0] .bk [])) [],
 qn (.a (storeF (tt 4) (tt 10) 64)) [pp 4, pp 10],
 qo 5 (.p (S.get (.c (.bool false)))) []]) (
 .ret)) (.skip))) (
 .seq (.reg [
 mv 12 0,
 qo 13 (.p (nilcF (tt 12))) [pp 12],
 qo 14 (.p (faddrF (tt 13) 3)) [pp 13],
 qo 15 (.r (loadF (tt 14) 1 .sc)) [pp 14],
 mv 16 1,
 qo 17 (.r (lookF (.blk 0) true (tt 15) (tt 16))) [pp 15, pp 16],
 mv 11 17,
 qo 18 (.p (extF (tt 11) 0)) [pp 11],
 qo 19 (.p (extF (tt 11) 1)) [pp 11],
 qo 6 (.m (allocF 64 [.blk 0])) [],
 qn (.a (storeF (tt 6) (tt 18) 64)) [pp 6, pp 18],
 mv 7 19]) (
 .seq (.reg [
 qo 20 (.r (loadF (tt 6) 64 .bk)) [pp 6],
 mv 21 7,
 qn (.a (storeF (tt 4) (tt 20) 64)) [pp 4, pp 20],
 mv 5 21]) (
 .ret))))⟩
theorem c14_eq : fnOf Try.prog 14 = some c14 := by kernel_rfl

/-- (*ashlar/draft.Draft).Len -/
noncomputable def c16 : CFn := ⟨[.tmp (pp 2)],
 .seq (.reg [
 qo 2 (.p (S.get (ii 0))) []]) (
 .seq (.seq (.reg [
 mv 3 0,
 qo 4 (.c (callF (ff 44) [(tt 3)])) [pp 3]]) (
 .cond (tt 4) (.seq (.reg [
 qo 2 (.p (S.get (ii 0))) []]) (
 .ret)) (.skip))) (
 .seq (.reg [
 mv 5 0,
 qo 6 (.p (nilcF (tt 5))) [pp 5],
 qo 7 (.p (faddrF (tt 6) 3)) [pp 6],
 qo 8 (.r (loadF (tt 7) 1 .sc)) [pp 7],
 qo 9 (.r (lenMF (tt 8))) [pp 8],
 mv 2 9]) (
 .ret)))⟩
theorem c16_eq : fnOf Try.prog 16 = some c16 := by kernel_rfl


/-- what was written, in the order in which the blocks came first -/
abbrev Ws := List (Int × Nat)
def ents : Ws → Nat → List (V × V × Nat)
  | [], _ => []
  | w :: l, i => (.int .i64 w.1, .blk w.2, i) :: ents l (i + 1)
def idx : Ws → Int → Option (Nat × Nat)
  | [], _ => none
  | w :: l, k => if w.1 = k then some (0, w.2) else (idx l k).map fun p => (p.1 + 1, p.2)
def Ws.put (W : Ws) (k : Int) (B : Nat) : Ws := match idx W k with
  | some (i, _) => W.set i (k, B)
  | none => W ++ [(k, B)]

theorem ents_len : ∀ (W : Ws) (i : Nat), (ents W i).length = W.length
  | [], _ => rfl
  | w :: l, i => by simp [ents, ents_len l]
theorem find_ents (k : Int) : ∀ (W : Ws) (i j : Nat), findE (.int .i64 k) (ents W i) j = some ((idx W k).map fun p => (j + p.1, .blk p.2, i + p.1))
  | [], i, j => rfl
  | w :: l, i, j => by
    simp only [ents, findE, sameKey, decide_true, eqI_eq, idx]
    by_cases h : k = w.1
    · rw [if_pos h.symm]; subst h; simp
    · rw [if_neg (fun e => h e.symm), show (k == w.1) = false by simp [h]]
      simp only [find_ents k l (i + 1) (Nat.succ j)]
      cases idx l k with
      | none => rfl
      | some p => simp; omega
theorem ents_app (k : Int) (B : Nat) : ∀ (W : Ws) (i : Nat), ents (W ++ [(k, B)]) i = ents W i ++ [(.int .i64 k, .blk B, i + W.length)]
  | [], i => rfl
  | w :: l, i => by
    simp only [List.cons_append, ents, ents_app k B l (i + 1), List.length_cons]
    rw [show i + 1 + l.length = i + (l.length + 1) by omega]
theorem ents_set (k : Int) (B : Nat) : ∀ (W : Ws) (i j : Nat), j < W.length → upd (.int .i64 k, .blk B, i + j) (ents W i) j = ents (W.set j (k, B)) i
  | w :: l, i, 0, _ => rfl
  | w :: l, i, j + 1, h => by
    have := ents_set k B l (i + 1) j (by simpa using h)
    rw [show i + 1 + j = i + (j + 1) by omega] at this
    simp only [List.set_cons_succ, ents, ← this]
    rfl
theorem idx_lt {k : Int} : ∀ {W : Ws} {p : Nat × Nat}, idx W k = some p → W[p.1]? = some (k, p.2)
  | w :: l, p, h => by
    simp only [idx] at h
    by_cases e : w.1 = k
    · rw [if_pos e] at h; cases h; subst e; simp
    · rw [if_neg e] at h
      cases hp : idx l k with
      | none => rw [hp] at h; cases h
      | some q => rw [hp] at h; cases h; simpa using idx_lt hp

structure DraftAt (H : Heap) (b mb : Bk) (m s r : Int) (W : Ws) : Prop where
  own : H.get b = some (.rows false 4 [[.int .i64 m, .int .i64 s, .int .i64 r, .map (some mb)]])
  mp : H.get mb = some (.map (ents W 0) W.length)
  ne : b ≠ mb
  old : H.Old b ∧ H.Old mb

theorem DraftAt.turns {H H' : Heap} {b mb : Bk} {m s r : Int} {W : Ws} (h : DraftAt H b mb m s r W) {X : Bk → Prop} (k : Turns X H H') (h1 : ¬ X b) (h2 : ¬ X mb) : DraftAt H' b mb m s r W :=
  ⟨(k.same b h.old.1 h1).trans h.own, (k.same mb h.old.2 h2).trans h.mp, h.ne, h.old.1.mono k.next, h.old.2.mono k.next⟩

section
variable {H : Heap} {b mb : Bk} {m s r : Int} {W : Ws} (h : DraftAt H b mb m s r W)
include h
theorem ld_g : loadAt H ⟨b, 0⟩ 3 = some [.int .i64 m, .int .i64 s, .int .i64 r] := by rw [loadAt_eq h.own rfl]; rfl
theorem ld_m : loadAt H ⟨b, 3⟩ 1 = some [.map (some mb)] := by rw [loadAt_eq h.own rfl]; rfl
theorem mp_at : mapAt H mb = some (ents W 0, W.length) := by unfold mapAt; rw [h.mp]

theorem none_ok (lf n : Nat) : callS Try.prog S0 lf (n + 1) 44 [.ptr (some ⟨b, 0⟩)] H = some (.v (.bool false), H) := by
  obtain ⟨v, H', e, rfl, rfl⟩ : ret (callS Try.prog S0 lf (n + 1) 44 [.ptr (some ⟨b, 0⟩)] H) fun v H' => v = .bool false ∧ H' = H := by
    have l := ld_m h
    refine ret_call rfl c44_eq ?_
    simp only [c44, l, eqMap, sy, tup, ↓reduceIte, Nat.reduceEqDiff, Nat.reduceAdd, Nat.reduceSub, Nat.reduceMul, Nat.reduceDiv, Nat.reduceMod, Nat.reduceLeDiff, Int.reduceBEq, reduceCtorEq]
    simp
  exact e

theorem len_ok (lf n : Nat) : callS Try.prog S0 lf (n + 2) 16 [.ptr (some ⟨b, 0⟩)] H = some (.v (.int .i64 (W.length : Int)), H) := by
  obtain ⟨v, H', e, rfl, rfl⟩ : ret (callS Try.prog S0 lf (n + 2) 16 [.ptr (some ⟨b, 0⟩)] H) fun v H' => v = .int .i64 (W.length : Int) ∧ H' = H := by
    have l := ld_m h
    have e := none_ok h lf n
    have hm := mp_at h
    refine ret_call rfl c16_eq ?_
    simp only [c16, e, l, hm, ents_len, sy, tup, ↓reduceIte, Nat.reduceEqDiff, Nat.reduceAdd, Nat.reduceSub, Nat.reduceMul, Nat.reduceDiv, Nat.reduceMod, Nat.reduceLeDiff, Int.reduceBEq, reduceCtorEq]
    simp
  exact e

def getB (W : Ws) (k : Int) : Nat := match idx W k with
  | some (_, B) => B
  | none => 0

theorem read_ok (k : Int) (lf n : Nat) : ret (callS Try.prog S0 lf (n + 2) 14 [.ptr (some ⟨b, 0⟩), .int .i64 k] H) fun v H' => v = .tuple [.blk (getB W k), .bool (idx W k).isSome] ∧ Turns Z H H' := by
  have t1 := Turns.add Z H (.rows false 64 [[.blk 0]])
  have h' := h.turns t1 id id
  have l := ld_m h'
  have hm := mp_at h'
  have e := none_ok h' lf n
  have st : ∀ x y : Nat, storeAt (((H.add (.rows false 64 [[.blk 0]])).add (.rows false 64 [[.blk 0]])).set (.run (H.next + 1)) (.rows false 64 [[.blk y]])) ⟨.run H.next, 0⟩ [.blk x] = some ((((H.add (.rows false 64 [[.blk 0]])).add (.rows false 64 [[.blk 0]])).set (.run (H.next + 1)) (.rows false 64 [[.blk y]])).set (.run H.next) (.rows false 64 [[.blk x]])) := by
    intro x y
    have hg : (((H.add (.rows false 64 [[.blk 0]])).add (.rows false 64 [[.blk 0]])).set (.run (H.next + 1)) (.rows false 64 [[.blk y]])).get (.run H.next) = some (.rows false 64 [[.blk 0]]) := by
      rw [Heap.get_set, if_neg (by simp), mem_add (by simp), Heap.get_add, if_pos rfl]
    exact storeAt_eq hg (r := [.blk 0]) rfl (put_blk _ _ _)
  have sn := fun x : Nat => store_new (H.add (.rows false 64 [[.blk 0]])) x 0
  rw [Heap.next_add] at sn
  have tt : ∀ x y : Nat, Turns Z H ((((H.add (.rows false 64 [[.blk 0]])).add (.rows false 64 [[.blk 0]])).set (.run (H.next + 1)) (.rows false 64 [[.blk y]])).set (.run H.next) (.rows false 64 [[.blk x]])) := fun x y => ((t1.addm _).setnew (by omega) _).setnew (Nat.le_refl _) _
  refine ret_call rfl c14_eq ?_
  cases hx : idx W k with
  | none =>
    simp only [c14, e, l, hm, isInt, find_ents, hx, Option.map_none, st, sn, sy, tup, ↓reduceIte, Nat.reduceEqDiff, Nat.reduceAdd, Nat.reduceSub, Nat.reduceMul, Nat.reduceDiv, Nat.reduceMod, Nat.reduceLeDiff, Int.reduceBEq, reduceCtorEq]
    simp [getB, hx]
    exact tt _ _
  | some p =>
    simp only [c14, e, l, hm, isInt, find_ents, hx, st, sn, sy, tup, ↓reduceIte, Nat.reduceEqDiff, Nat.reduceAdd, Nat.reduceSub, Nat.reduceMul, Nat.reduceDiv, Nat.reduceMod, Nat.reduceLeDiff, Int.reduceBEq, reduceCtorEq]
    simp [getB, hx]
    exact tt _ _
end

/-- what a writing is answered -/
def wcode (m s r : Int) (W : Ws) (k : Int) : Int := if k < 0 ∨ blocks m s r ≤ k then 12 else if idx W k = none ∧ 16 ≤ W.length then 11 else 0
def Ws.write (W : Ws) (m s r : Int) (k : Int) (B : Nat) : Ws := if wcode m s r W k = 0 then W.put k B else W

theorem DraftAt.put {H : Heap} {b mb : Bk} {m s r : Int} {W : Ws} (h : DraftAt H b mb m s r W) (k : Int) (B : Nat) :
    mapUpd H (.map (some mb)) (.int .i64 k) (.blk B) = some (Am.undef, H.set mb (.map (ents (W.put k B) 0) (W.put k B).length)) ∧ DraftAt (H.set mb (.map (ents (W.put k B) 0) (W.put k B).length)) b mb m s r (W.put k B) := by
  refine ⟨?_, ⟨?_, ?_, h.ne, by simpa using h.old⟩⟩
  · unfold mapUpd
    simp only [isInt, mp_at h, find_ents]
    unfold Ws.put
    cases hx : idx W k with
    | none => simp only [Option.map_none, ents_app, Nat.zero_add, List.length_append, List.length_singleton]
    | some p =>
      have := idx_lt hx
      have hlt := (List.getElem?_eq_some_iff.1 this).1
      have hs := ents_set k B W 0 p.1 hlt
      rw [Nat.zero_add] at hs
      simp only [Option.map_some, Nat.zero_add, hs, List.length_set]
  · rw [Heap.get_set, if_neg h.ne]; exact h.own
  · rw [Heap.get_set, if_pos rfl]

theorem write_ok {H : Heap} {b mb : Bk} {m s r : Int} {W : Ws} (h : DraftAt H b mb m s r W) (k : Int) (B : Nat) (lf n : Nat) : ret (callS Try.prog S0 lf (n + 4) 12 [.ptr (some ⟨b, 0⟩), .int .i64 k, .blk B] H) fun v H' =>
    v = .int .i64 (wcode m s r W k) ∧ DraftAt H' b mb m s r (W.write m s r k B) ∧ Turns (fun c => c = mb) H H' := by
  have t1 := Turns.add Z H (.rows false 64 [[.blk B]])
  have h1 := h.turns t1 id id
  have e1 := none_ok h1 lf (n + 2)
  have l1 := ld_m h1
  have hm1 := mp_at h1
  have sn := fun x : Nat => store_new (H.add (.rows false 64 [[.blk B]])) x 0
  rw [Heap.next_add] at sn
  have t2 : ∀ x : Nat, Turns Z H (((H.add (.rows false 64 [[.blk B]])).add (.rows false 64 [[.blk 0]])).set (.run (H.next + 1)) (.rows false 64 [[.blk x]])) := fun x => (t1.addm _).setnew (by omega) _
  have h2 := fun x => h.turns (t2 x) id id
  have l2 := fun x => ld_g (h2 x)
  have hB2 : ∀ x : Nat, (((H.add (.rows false 64 [[.blk B]])).add (.rows false 64 [[.blk 0]])).set (.run (H.next + 1)) (.rows false 64 [[.blk x]])).get (.run H.next) = some (.rows false 64 [[.blk B]]) := fun x => by
    rw [Heap.get_set, if_neg (by simp), mem_add (by simp), Heap.get_add, if_pos rfl]
  have go : ∀ (x : Nat) (z : Bool) (hz : z = (idx W k).isSome) (hx : x = getB W k), ret (callS Try.prog S0 lf (n + 4) 12 [.ptr (some ⟨b, 0⟩), .int .i64 k, .blk B] H) fun v H' =>
      v = .int .i64 (wcode m s r W k) ∧ DraftAt H' b mb m s r (W.write m s r k B) ∧ Turns (fun c => c = mb) H H' := by
    intro x z hz hxx
    obtain ⟨v, H3, e3, rfl, t3⟩ := blocks_ok (((H.add (.rows false 64 [[.blk B]])).add (.rows false 64 [[.blk 0]])).set (.run (H.next + 1)) (.rows false 64 [[.blk x]])) m s r lf n
    unfold geo at e3
    have h3 := (h2 x).turns t3 id id
    have lm2 := ld_m (h2 x)
    have lm3 := ld_m h3
    have hm2 := mp_at (h2 x)
    have hm3 := mp_at h3
    have hB3 : H3.get (.run H.next) = some (.rows false 64 [[.blk B]]) := (t3.same _ (by show _ < _; simp; omega) id).trans (hB2 x)
    have lB : loadAt H3 ⟨.run H.next, 0⟩ 64 = some [.blk B] := by rw [loadAt_eq hB3 rfl]; exact cut_blk _ _
    obtain ⟨pu, ph⟩ := h3.put k B
    have tz : Turns Z H H3 := (t2 x).trans t3
    have tw : Turns (fun c => c = mb) H H3 := tz.wide (fun c hc => hc.elim)
    refine ret_call rfl c12_eq ?_
    by_cases h0 : k < 0
    · have hc : wcode m s r W k = 12 := if_pos (.inl h0)
      have hw : W.write m s r k B = W := if_neg (by rw [hc]; decide)
      rw [hc, hw]
      cases hx : idx W k with
      | none =>
        simp only [c12, e1, l1, hm1, isInt, find_ents, hx, Option.map_none, sn, h0, sy, tup, ↓reduceIte, Nat.reduceEqDiff, Nat.reduceAdd, Nat.reduceSub, Nat.reduceMul, Nat.reduceDiv, Nat.reduceMod, Nat.reduceLeDiff, Int.reduceBEq, reduceCtorEq]
        refine ⟨trivial, .inr trivial, _, rfl, rfl, h.turns (t2 _) id id, (t2 _).wide (fun c hc => hc.elim)⟩
      | some p =>
        simp only [c12, e1, l1, hm1, isInt, find_ents, hx, sn, h0, sy, tup, ↓reduceIte, Nat.reduceEqDiff, Nat.reduceAdd, Nat.reduceSub, Nat.reduceMul, Nat.reduceDiv, Nat.reduceMod, Nat.reduceLeDiff, Int.reduceBEq, reduceCtorEq]
        refine ⟨trivial, .inr trivial, _, rfl, rfl, h.turns (t2 _) id id, (t2 _).wide (fun c hc => hc.elim)⟩
    · have g0 : ¬ (k < 0) := h0
      by_cases hb : blocks m s r ≤ k
      · have hc : wcode m s r W k = 12 := if_pos (.inr hb)
        have hw : W.write m s r k B = W := if_neg (by rw [hc]; decide)
        rw [hc, hw]
        cases hx : idx W k with
        | none =>
          have hxx : x = 0 := by rw [hxx]; simp [getB, hx]
          subst hxx
          simp only [c12, e1, l1, hm1, isInt, find_ents, hx, Option.map_none, sn, h0, l2, e3, hb, sy, tup, ↓reduceIte, Nat.reduceEqDiff, Nat.reduceAdd, Nat.reduceSub, Nat.reduceMul, Nat.reduceDiv, Nat.reduceMod, Nat.reduceLeDiff, Int.reduceBEq, reduceCtorEq]
          exact ⟨trivial, .inr trivial, _, rfl, rfl, h3, tw⟩
        | some p =>
          have hxx : x = p.2 := by rw [hxx]; simp [getB, hx]
          subst hxx
          simp only [c12, e1, l1, hm1, isInt, find_ents, hx, sn, h0, l2, e3, hb, sy, tup, ↓reduceIte, Nat.reduceEqDiff, Nat.reduceAdd, Nat.reduceSub, Nat.reduceMul, Nat.reduceDiv, Nat.reduceMod, Nat.reduceLeDiff, Int.reduceBEq, reduceCtorEq]
          exact ⟨trivial, .inr trivial, _, rfl, rfl, h3, tw⟩
      · have hk : ¬ (k < 0 ∨ blocks m s r ≤ k) := by omega
        cases hx : idx W k with
        | none =>
          have hxx : x = 0 := by rw [hxx]; simp [getB, hx]
          subst hxx
          by_cases hl : 16 ≤ W.length
          · have hc : wcode m s r W k = 11 := by unfold wcode; rw [if_neg hk, if_pos ⟨hx, hl⟩]
            have hw : W.write m s r k B = W := if_neg (by rw [hc]; decide)
            rw [hc, hw]
            have hl' : (16 : Int) ≤ (W.length : Int) := by omega
            simp only [c12, e1, l1, hm1, isInt, find_ents, hx, Option.map_none, sn, h0, l2, e3, hb, lm3, hm3, ents_len, hl', sy, tup, ↓reduceIte, Nat.reduceEqDiff, Nat.reduceAdd, Nat.reduceSub, Nat.reduceMul, Nat.reduceDiv, Nat.reduceMod, Nat.reduceLeDiff, Int.reduceBEq, reduceCtorEq]
            exact ⟨trivial, .inr trivial, _, rfl, rfl, h3, tw⟩
          · have hc : wcode m s r W k = 0 := by unfold wcode; rw [if_neg hk, if_neg (fun e => hl e.2)]
            have hw : W.write m s r k B = W.put k B := if_pos hc
            rw [hc, hw]
            have hl' : ¬ ((16 : Int) ≤ (W.length : Int)) := by omega
            simp only [c12, e1, l1, hm1, isInt, find_ents, hx, Option.map_none, sn, h0, l2, e3, hb, lm3, hm3, ents_len, hl', lB, pu, sy, tup, ↓reduceIte, Nat.reduceEqDiff, Nat.reduceAdd, Nat.reduceSub, Nat.reduceMul, Nat.reduceDiv, Nat.reduceMod, Nat.reduceLeDiff, Int.reduceBEq, reduceCtorEq]
            rw [endD_ok (by kernel_rfl) (by kernel_rfl)]
            simp only [sy, tup, ↓reduceIte, Nat.reduceEqDiff, Nat.reduceAdd, Nat.reduceSub, Nat.reduceMul, Nat.reduceDiv, Nat.reduceMod, Nat.reduceLeDiff, Int.reduceBEq, reduceCtorEq]
            exact ⟨trivial, .inr trivial, _, rfl, rfl, ph, tw.setm rfl _⟩
        | some p =>
          have hxx : x = p.2 := by rw [hxx]; simp [getB, hx]
          subst hxx
          have hc : wcode m s r W k = 0 := by unfold wcode; rw [if_neg hk, if_neg (fun e => by rw [hx] at e; cases e.1)]
          have hw : W.write m s r k B = W.put k B := if_pos hc
          rw [hc, hw]
          simp only [c12, e1, l1, hm1, isInt, find_ents, hx, sn, h0, l2, e3, hb, lm3, hm3, ents_len, lB, pu, sy, tup, ↓reduceIte, Nat.reduceEqDiff, Nat.reduceAdd, Nat.reduceSub, Nat.reduceMul, Nat.reduceDiv, Nat.reduceMod, Nat.reduceLeDiff, Int.reduceBEq, reduceCtorEq]
          rw [endD_ok (by kernel_rfl) (by kernel_rfl)]
          simp only [sy, tup, ↓reduceIte, Nat.reduceEqDiff, Nat.reduceAdd, Nat.reduceSub, Nat.reduceMul, Nat.reduceDiv, Nat.reduceMod, Nat.reduceLeDiff, Int.reduceBEq, reduceCtorEq]
          exact ⟨trivial, .inr trivial, _, rfl, rfl, ph, tw.setm rfl _⟩
  exact go _ _ rfl rfl

theorem new_ok (H : Heap) {m s r : Int} (hm : may m s r = true) (lf n : Nat) : ret (callS Try.prog S0 lf (n + 3) 9 [geo m s r] H) fun v H' => ∃ b mb, v = .tuple [.ptr (some ⟨b, 0⟩), .int .i64 0] ∧ DraftAt H' b mb m s r [] ∧ Turns Z H H' ∧ ¬ H.Old b ∧ ¬ H.Old mb := by
  have t1 := Turns.add Z H (.rows false 3 [[.int .i64 m, .int .i64 s, .int .i64 r]])
  have hg : (H.add (.rows false 3 [[.int .i64 m, .int .i64 s, .int .i64 r]])).get (.run H.next) = some (.rows false 3 [[.int .i64 m, .int .i64 s, .int .i64 r]]) := by rw [Heap.get_add, if_pos rfl]
  have lw : loadAt (H.add (.rows false 3 [[.int .i64 m, .int .i64 s, .int .i64 r]])) ⟨.run H.next, 0⟩ 3 = some [.int .i64 m, .int .i64 s, .int .i64 r] := by rw [loadAt_eq hg rfl]; rfl
  obtain ⟨v, H1, e, rfl, t2⟩ := may_ok (H.add (.rows false 3 [[.int .i64 m, .int .i64 s, .int .i64 r]])) m s r lf n
  unfold geo at e
  rw [hm] at e
  have hg' : H1.get (.run H.next) = some (.rows false 3 [[.int .i64 m, .int .i64 s, .int .i64 r]]) := (t2.same _ (by show _ < _; simp) id).trans hg
  have lw' : loadAt H1 ⟨.run H.next, 0⟩ 3 = some [.int .i64 m, .int .i64 s, .int .i64 r] := by rw [loadAt_eq hg' rfl]; rfl
  have hn := (t1.trans t2).next
  have pf : ∀ x : Nat, put [.int .i64 0, .int .i64 0, .int .i64 0, .map none] 0 [.int .i64 m, .int .i64 s, .int .i64 r] = some [.int .i64 m, .int .i64 s, .int .i64 r, .map none] := fun _ => rfl
  have pf := pf 0
  refine ret_call rfl c9_eq ?_
  simp only [c9, geo, e, lw, lw', pf, sy, tup, ↓reduceIte, Nat.reduceEqDiff, Nat.reduceAdd, Nat.reduceSub, Nat.reduceMul, Nat.reduceDiv, Nat.reduceMod, Nat.reduceLeDiff, Int.reduceBEq, reduceCtorEq]
  refine ⟨trivial, .inr trivial, _, rfl, .run (H1.next + 1), .run H1.next, rfl, ⟨?_, ?_, by simp, ?_⟩, ((t1.trans t2).addm _).addm _, Heap.not_old (by omega), Heap.not_old (by omega)⟩
  · rw [Heap.get_add, if_pos (by simp)]
  · rw [Heap.get_add, if_neg (by simp), Heap.get_add, if_pos rfl]; rfl
  · constructor
    · show _ < _; simp
    · show _ < _; simp; omega

theorem new_err (H : Heap) {m s r : Int} (hm : may m s r = false) (lf n : Nat) : ret (callS Try.prog S0 lf (n + 3) 9 [geo m s r] H) fun v H' => v = .tuple [.ptr none, .int .i64 2] ∧ Turns Z H H' := by
  have t1 := Turns.add Z H (.rows false 3 [[.int .i64 m, .int .i64 s, .int .i64 r]])
  have hg : (H.add (.rows false 3 [[.int .i64 m, .int .i64 s, .int .i64 r]])).get (.run H.next) = some (.rows false 3 [[.int .i64 m, .int .i64 s, .int .i64 r]]) := by rw [Heap.get_add, if_pos rfl]
  have lw : loadAt (H.add (.rows false 3 [[.int .i64 m, .int .i64 s, .int .i64 r]])) ⟨.run H.next, 0⟩ 3 = some [.int .i64 m, .int .i64 s, .int .i64 r] := by rw [loadAt_eq hg rfl]; rfl
  obtain ⟨v, H1, e, rfl, t2⟩ := may_ok (H.add (.rows false 3 [[.int .i64 m, .int .i64 s, .int .i64 r]])) m s r lf n
  unfold geo at e
  rw [hm] at e
  refine ret_call rfl c9_eq ?_
  simp only [c9, geo, e, lw, sy, tup, ↓reduceIte, Nat.reduceEqDiff, Nat.reduceAdd, Nat.reduceSub, Nat.reduceMul, Nat.reduceDiv, Nat.reduceMod, Nat.reduceLeDiff, Int.reduceBEq, reduceCtorEq]
  exact ⟨trivial, .inr trivial, _, rfl, rfl, t1.trans t2⟩

theorem livesRun : okT (callS Try.prog sorted.both 100000 60 11 [] (heapA Try.prog fun _ => none)) = true := by kernel_rfl
theorem sums : CallSnd Try.prog S0 := orS_snd (sumT_snd sorted.both_snd (okT_some livesRun)) sorted.both_snd

theorem lives_ok (lf n : Nat) (H : Heap) : callS Try.prog S0 lf (n + 1) 11 [] H = some (.v (.bool true), H) := rfl

/-- what a block was written to be -/
def gt (W : Ws) (k : Int) : Option Nat := (idx W k).map (·.2)

theorem gt_none {W : Ws} {k : Int} : idx W k = none ↔ gt W k = none := by unfold gt; cases idx W k <;> simp
theorem gt_isSome (W : Ws) (k : Int) : (idx W k).isSome = (gt W k).isSome := by unfold gt; cases idx W k <;> rfl
theorem getB_gt (W : Ws) (k : Int) : getB W k = (gt W k).getD 0 := by unfold getB gt; cases idx W k <;> rfl

theorem gt_cons (w : Int × Nat) (l : Ws) (k : Int) : gt (w :: l) k = if w.1 = k then some w.2 else gt l k := by
  unfold gt
  simp only [idx]
  split
  · rfl
  · cases idx l k <;> rfl
theorem gt_app (k : Int) (B : Nat) (k' : Int) : ∀ W : Ws, gt W k = none → gt (W ++ [(k, B)]) k' = if k' = k then some B else gt W k'
  | [], _ => by
    rw [List.nil_append, gt_cons]
    by_cases e : k = k'
    · rw [if_pos e, if_pos e.symm]
    · rw [if_neg e, if_neg (fun h => e h.symm)]
  | w :: l, h => by
    rw [gt_cons] at h
    split at h
    · cases h
    · rename_i hw
      rw [List.cons_append, gt_cons, gt_app k B k' l h, gt_cons]
      by_cases e : w.1 = k'
      · rw [if_pos e, if_pos e, if_neg (fun e' => hw (e.trans e'))]
      · rw [if_neg e, if_neg e]
theorem gt_set (k : Int) (B : Nat) (k' : Int) : ∀ (W : Ws) (i B0 : Nat), idx W k = some (i, B0) → gt (W.set i (k, B)) k' = if k' = k then some B else gt W k'
  | w :: l, i, B0, h => by
    simp only [idx] at h
    by_cases e : w.1 = k
    · rw [if_pos e] at h
      cases h
      rw [List.set_cons_zero, gt_cons, gt_cons]
      by_cases e' : k' = k
      · rw [if_pos e'.symm, if_pos e']
      · rw [if_neg (fun h => e' h.symm), if_neg e', if_neg (fun h => e' (h.symm.trans e))]
    · rw [if_neg e] at h
      cases hp : idx l k with
      | none => rw [hp] at h; cases h
      | some p =>
        rw [hp] at h
        cases h
        rw [List.set_cons_succ, gt_cons, gt_cons, gt_set k B k' l p.1 p.2 hp]
        by_cases e' : w.1 = k'
        · rw [if_pos e', if_pos e', if_neg (fun h => e (e'.trans h))]
        · rw [if_neg e', if_neg e']
theorem gt_put (W : Ws) (k : Int) (B : Nat) (k' : Int) : gt (W.put k B) k' = if k' = k then some B else gt W k' := by
  unfold Ws.put
  cases h : idx W k with
  | none => exact gt_app k B k' W (gt_none.1 h)
  | some p => exact gt_set k B k' W p.1 p.2 h
theorem put_len (W : Ws) (k : Int) (B : Nat) : (W.put k B).length = if (gt W k).isSome then W.length else W.length + 1 := by
  unfold Ws.put gt
  cases idx W k <;> simp

theorem wf_u8 {n : Int} (h : (Lit.int .u8 n).wf = true) : ∃ s : Nat, s < 256 ∧ n = (s : Int) := by
  have h : (decide (IntKind.u8.min ≤ n) && decide (n ≤ IntKind.u8.max)) = true := h
  simp only [Bool.and_eq_true, decide_eq_true_eq] at h
  have h1 : (0 : Int) ≤ n := h.1
  have h2 : n ≤ 255 := h.2
  exact ⟨n.toNat, by omega, (Int.toNat_of_nonneg h1).symm⟩

theorem u8_of {a : Nat → Option Am.Obj} {u : V} (h : FitsV a (.int .u8) u) : ∃ s : Nat, s < 256 ∧ u = .int .u8 (s : Int) := by
  obtain ⟨C, ⟨n, hw, rfl⟩, hu⟩ := h
  cases hu
  obtain ⟨s, hs, rfl⟩ := wf_u8 hw
  exact ⟨s, hs, rfl⟩

theorem blk_of {a : Nat → Option Am.Obj} {u : V} (h : FitsV a .blk u) : ∃ b : Nat, u = .blk b := by
  obtain ⟨C, ⟨B, hw, rfl⟩, hu⟩ := h
  cases hu
  exact ⟨B, rfl⟩

def zeros : List Value := List.replicate 64 (.int .u8 0)

end Go.Proofs.Ytpmdbbdidafehaa.draft

