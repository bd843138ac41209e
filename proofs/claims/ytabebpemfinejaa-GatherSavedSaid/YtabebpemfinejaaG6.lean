import Derived.Test.YtabebpemfinejaaG5
set_option linter.unusedVariables false
set_option linter.unusedSectionVars false
set_option linter.unusedSimpArgs false
set_option maxRecDepth 10000
namespace Go.Proofs.Ytabebpemfinejaa.draft
open Go.Am
open disk (bx Fit A1 R1 Low)
noncomputable def c26 : CFn := ⟨[.tmp (pp 4)],
 .seq (.reg [
 qo 4 (.p (S.get (ii 0))) []]) (
 .seq (.reg [
 qo 6 (.r (loadF (tt 1) 1 .sc)) [pp 1],
 mv 7 0,
 qo 8 (.c (callF (ff 27) [(tt 6), (tt 7)])) [pp 6, pp 7],
 mv 5 8]) (
 .seq (.seq (.reg [
 mv 9 5,
 qo 10 (.p (eqcF false false [.int .i64] (tt 9) (ii 9))) [pp 9]]) (
 .cond (tt 10) (.seq (.regD [
 qo 12 (.r (loadF (tt 1) 1 .sc)) [pp 1],
 qo 13 (.r (loadF (tt 1) 1 .sc)) [pp 1],
 qo 14 (.p (nilcF (tt 13))) [pp 13],
 qo 15 (.p (faddrF (tt 14) 3)) [pp 14],
 qo 16 (.r (loadF (tt 15) 21 .ag)) [pp 15],
 mv 17 0,
 qo 18 (.c (callF (ff 28) [(tt 16), (tt 17)])) [pp 16, pp 17],
 mv 11 18,
 qo 19 (.p (extF (tt 11) 0)) [pp 11],
 qo 20 (.p (extF (tt 11) 1)) [pp 11],
 qo 21 (.p (nilcF (tt 12))) [pp 12],
 qo 22 (.p (faddrF (tt 21) 3)) [pp 21],
 qn (.a (storeF (tt 22) (tt 19) 21)) [pp 22, pp 19]] [0, 0, 2, 6, 14, 0, 62, 126, 254, 254, 511, 1535, 3583]) (
 .reg [
 qn (.a (storeF (tt 2) (.c (.bool true)) 1)) [pp 2]])) (.skip))) (
 .seq (.reg [
 mv 23 5,
 mv 4 23]) (
 .ret))))⟩
theorem c26_eq : fnOf Try.prog 26 = some c26 := by kernel_rfl
noncomputable def c25_l0 : C := .seq (.reg [
 qo 14 (.p (arF .lss (tt 13) (tt 12))) [pp 13, pp 12]]) (
 .seq (.cond (tt 14) (.skip) (.exit 0)) (
 .seq (.block 1 (.seq (.reg [
 mv 15 13,
 mv 5 15]) (
 .seq (.seq (.reg [
 mv 16 0,
 mv 17 5,
 qo 18 (.p (nilcF (tt 16))) [pp 16],
 qo 19 (.p (faddrF (tt 18) 3)) [pp 18],
 qo 20 (.p (faddrF (tt 19) 3)) [pp 19],
 qo 21 (.p (iaddrAF (tt 20) (tt 17) 16 1)) [pp 20, pp 17],
 qo 22 (.r (loadF (tt 21) 1 .sc)) [pp 21],
 qo 23 (.p (eqcF false false [.int .u8] (tt 22) (.c (.int .u8 1)))) [pp 22]]) (
 .cond (tt 23) (.exit 1) (.skip))) (
 .seq (.reg [
 mv 24 1,
 mv 25 5,
 qo 26 (.c (callF (tt 24) [(tt 25)])) [pp 24, pp 25],
 mv 6 26]) (
 .seq (.reg [
 mv 27 6,
 qo 28 (.p (eqcF true false [.int .i64] (tt 27) (ii 0))) [pp 27]]) (
 .cond (tt 28) (.seq (.reg [
 mv 29 6,
 mv 4 29]) (
 .ret)) (.skip))))))) (
 .reg [
 qo 30 (.p (arF .add (tt 13) (ii 1))) [pp 13],
 mv 13 30])))
noncomputable def c25 : CFn := ⟨[.tmp (pp 4)],
 .seq (.reg [
 qo 4 (.p (S.get (ii 0))) []]) (
 .seq (.seq (.reg [
 mv 7 0,
 qo 8 (.p (nilcF (tt 7))) [pp 7],
 qo 9 (.p (faddrF (tt 8) 3)) [pp 8],
 qo 10 (.p (faddrF (tt 9) 0)) [pp 9],
 qo 11 (.p (faddrF (tt 10) 0)) [pp 10],
 qo 12 (.r (loadF (tt 11) 1 .sc)) [pp 11],
 qo 13 (.p (S.get (ii 0))) []]) (
 .block 0 (.loop c25_l0))) (
 .seq (.reg [
 qo 4 (.p (S.get (ii 0))) []]) (
 .ret)))⟩
theorem c25_eq : fnOf Try.prog 25 = some c25 := by kernel_rfl
noncomputable def c8_l0 : C := .seq (.seq (.reg [
 qo 7 (.r (loadF (tt 3) 1 .sc)) [pp 3]]) (
 .cond (tt 7) (.skip) (.exit 0))) (
 .seq (.block 1 (.seq (.reg [
 qn (.a (storeF (tt 3) (.c (.bool false)) 1)) [pp 3]]) (
 .seq (.reg [
 qo 8 (.r (loadF (tt 1) 1 .sc)) [pp 1],
 qo 9 (.p (nilcF (tt 8))) [pp 8],
 qo 10 (.p (faddrF (tt 9) 2)) [pp 9],
 qo 11 (.r (loadF (tt 10) 1 .sc)) [pp 10],
 qo 12 (.p (arF .add (tt 11) (.c (.int .u64 1)))) [pp 11],
 qo 13 (.p (nilcF (tt 8))) [pp 8],
 qo 14 (.p (faddrF (tt 13) 2)) [pp 13],
 qn (.a (storeF (tt 14) (tt 12) 1)) [pp 14, pp 12]]) (
 .seq (.reg [
 qo 15 (.r (loadF (tt 1) 1 .sc)) [pp 1],
 qo 16 (.p (mkfnF (.func 26) [] [(tt 1), (tt 3)])) [pp 1, pp 3],
 qo 17 (.c (callF (ff 25) [(tt 15), (tt 16)])) [pp 15, pp 16],
 mv 4 17]) (
 .seq (.reg [
 mv 18 4,
 qo 19 (.p (eqcF true false [.int .i64] (tt 18) (ii 0))) [pp 18],
 mv 20 19,
 qg 21 (.r (loadF (tt 3) 1 .sc)) 20 true [pp 3],
 qg 22 (.p (unF .not (tt 21))) 20 true [pp 21],
 qo 23 (.p (pickF (tt 20) (tt 22) (.c (.bool false)))) [pp 20, pp 22]]) (
 .cond (tt 23) (.seq (.reg [
 mv 24 4,
 mv 2 24]) (
 .ret)) (.skip))))))) (
 .seq (.reg [
 qo 25 (.r (loadF (tt 3) 1 .sc)) [pp 3]]) (
 .reg [
 qo 3 (.m (allocF 1 [.bool false])) [],
 qn (.a (storeF (tt 3) (tt 25) 1)) [pp 3, pp 25]])))
noncomputable def c8 : CFn := ⟨[.tmp (pp 2)],
 .seq (.reg [
 qo 1 (.m (boxF 1 (tt 0))) [pp 0],
 qo 2 (.p (S.get (ii 0))) []]) (
 .seq (.seq (.reg [
 qo 5 (.r (loadF (tt 1) 1 .sc)) [pp 1],
 qo 6 (.c (callF (ff 24) [(tt 5)])) [pp 5]]) (
 .cond (tt 6) (.seq (.reg [
 qo 2 (.p (S.get (ii 1))) []]) (
 .ret)) (.skip))) (
 .seq (.seq (.reg [
 qo 3 (.m (allocF 1 [.bool false])) [],
 qn (.a (storeF (tt 3) (.c (.bool true)) 1)) [pp 3]]) (
 .block 0 (.loop c8_l0))) (
 .seq (.reg [
 qo 2 (.p (S.get (ii 0))) []]) (
 .ret))))⟩
theorem c8_eq : fnOf Try.prog 8 = some c8 := by kernel_rfl
theorem put_hr {S S' : List Nat} (hS : S.length = 16) (hS' : S'.length = 16) (b : Bk) (id ev m s r c c' : Int) (g : Bool) : Go.Am.put (hcells b id ev m s r S c g) 3 (rcells m s r S' c' g) = some (hcells b id ev m s r S' c' g) := by
  match S, S', hS, hS' with
  | [_, _, _, _, _, _, _, _, _, _, _, _, _, _, _, _], [_, _, _, _, _, _, _, _, _, _, _, _, _, _, _, _], _, _ => rfl
theorem put_hev {S : List Nat} (b : Bk) (id ev ev' m s r c : Int) (g : Bool) : Go.Am.put (hcells b id ev m s r S c g) 2 [.int .u64 ev'] = some (hcells b id ev' m s r S c g) := rfl
structure Caught (G : Heap) (h p q : Bk) (z : Bool) : Prop where
  h : G.get p = some (.rows false 1 [[.ptr (some ⟨h, 0⟩)]])
  z : G.get q = some (.rows false 1 [[.bool z]])
  op : G.Old p
  oq : G.Old q
theorem ne_of_get {G : Heap} {b c : Bk} {x y : Am.Obj} (hb : G.get b = some x) (hc : G.get c = some y) (h : x ≠ y) : (b = c) = False := by
  simp only [eq_iff_iff, iff_false]
  intro e
  rw [e, hc] at hb
  exact h (Option.some.inj hb).symm
theorem Caught.turns {G G' : Heap} {h p q : Bk} {z : Bool} (x : Caught G h p q z) (t : Turns Z G G') : Caught G' h p q z :=
  ⟨(t.same p x.op (fun h => h)).trans x.h, (t.same q x.oq (fun h => h)).trans x.z, x.op.mono t.next, x.oq.mono t.next⟩
theorem HB.step {G G' : Heap} {h b : Bk} {id ev m s r : Int} {S : List Nat} {c : Int} {g : Bool} {B B' : disk.Bn} (x : HB G h b id ev m s r S c g B) (t : Turns (fun c => c = b) G G') (hb : G'.get b = some (bx false B')) (hf : Fit B') : HB G' h b id ev m s r S c g B' :=
  ⟨⟨(t.same h x.hull.old (fun e => by have := x.ne; rw [this] at e; exact e)).trans x.hull.own, x.hull.len, x.hull.old.mono t.next⟩, hb, x.old.mono t.next, hf⟩
theorem Caught.step {G G' : Heap} {h b p q : Bk} {z : Bool} {B : disk.Bn} (x : Caught G h p q z) (hb : G.get b = some (bx false B)) (t : Turns (fun c => c = b) G G') : Caught G' h p q z := by
  have n1 := ne_of_get x.h hb (by intro e; cases e)
  have n2 := ne_of_get x.z hb (by intro e; cases e)
  exact ⟨(t.same p x.op (fun e => by rw [n1] at e; exact e)).trans x.h, (t.same q x.oq (fun e => by rw [n2] at e; exact e)).trans x.z, x.op.mono t.next, x.oq.mono t.next⟩
theorem hl_st {S : List Nat} (hS : S.length = 16) {i : Nat} (hi : i < 16) (b : Bk) (id ev m s r c : Int) (g : Bool) : cut (hcells b id ev m s r S c g) (6 + i) 1 = some [.int .u8 ((S.getD i 0 : Nat) : Int)] := by
  rw [cut_thin (h_thin b id ev m s r S c g) (by unfold hcells; rw [List.length_append, r_len hS]; show 6 + i + 1 ≤ 3 + 21; omega)]
  have hcs : i = 0 ∨ i = 1 ∨ i = 2 ∨ i = 3 ∨ i = 4 ∨ i = 5 ∨ i = 6 ∨ i = 7 ∨ i = 8 ∨ i = 9 ∨ i = 10 ∨ i = 11 ∨ i = 12 ∨ i = 13 ∨ i = 14 ∨ i = 15 := by omega
  match S, hS with
  | [_, _, _, _, _, _, _, _, _, _, _, _, _, _, _, _], _ => rcases hcs with rfl | rfl | rfl | rfl | rfl | rfl | rfl | rfl | rfl | rfl | rfl | rfl | rfl | rfl | rfl | rfl <;> rfl
theorem sect_of {B B' : disk.Bn} {j : Nat} (h : B.dev (j : Int) = B'.dev (j : Int)) (t : Nat) : sect B j t = sect B' j t := by unfold sect; rw [h]
structure Round (M k N ID : Nat) (s r : Int) (S : List Nat) (c : Int) (g : Bool) (B0 B : disk.Bn) (i : Nat) : Prop where
  calm : Calm M (k + 2 * i) B
  dd : ∀ j, j < M → dead B j = dead B0 j
  done : ∀ j, j < i → S.getD j 0 ≠ 1 → dead B0 j = false ∧ hasX B j N (supBlk (N + 1) ID j M s r S c g)
  rest : ∀ j : Nat, j < M → (i ≤ j ∨ S.getD j 0 = 1) → B.dev (j : Int) = B0.dev (j : Int)
  len : ∀ j : Nat, j < M + 1 → (B.dev (j : Int)).S.length = (B0.dev (j : Int)).S.length
theorem Round.skip {M k N ID : Nat} {s r : Int} {S : List Nat} {c : Int} {g : Bool} {B0 B : disk.Bn} {i : Nat} (h : Round M k N ID s r S c g B0 B i) (hl : S.getD i 0 = 1) : Round M k N ID s r S c g B0 B (i + 1) := by
  have h1 := h.calm.ok.mono.mono
  refine ⟨⟨?_, h.calm.ar, h.calm.dk, h.calm.len, h.calm.le, h.calm.sz, h.calm.lo⟩, h.dd, fun j hj hn => ?_, fun j hj hh => ?_, h.len⟩
  · exact h1
  · by_cases e : j = i
    · rw [e] at hn; exact absurd hl hn
    · exact h.done j (by omega) hn
  · refine h.rest j hj ?_
    rcases hh with hh | hh
    · exact .inl (by omega)
    · exact .inr hh
theorem Round.put {M k N ID : Nat} {s r : Int} {S : List Nat} {c : Int} {g : Bool} {B0 B : disk.Bn} {i : Nat} (h : Round M k N ID s r S c g B0 B i) (hi : i < M) (hl : S.getD i 0 ≠ 1) (hd : dead B0 i = false)
    (hu : ∀ j, j < M → ∀ t, t < 2 → upto N (sect B0 j t)) : Round M k N ID s r S c g B0 (wrB B i (slotI (sect B i 0) (sect B i 1)) (supBlk (N + 1) ID i M s r S c g)) (i + 1) := by
  have hdB : dead B i = false := (h.dd i hi).trans hd
  have hsl := slotI_lt (sect B i 0) (sect B i 1)
  have hdi := h.rest i hi (.inl (Nat.le_refl _))
  have hhas := wrB_has h.calm hi hdB (N := N) (X := supBlk (N + 1) ID i M s r S c g) (fun j hj => by unfold sect; rw [hdi]; exact hu i hi j hj)
  have hoth := fun {j : Nat} (hj : j < M) (hne : j ≠ i) => wrB_other h.calm hi hdB hsl (supBlk (N + 1) ID i M s r S c g) hj hne
  refine ⟨(h.calm.put hi hsl hdB _).2.2.2.2.1, fun j hj => (wrB_dead h.calm hi hdB hsl _ hj).trans (h.dd j hj), fun j hj hn => ?_, fun j hj hh => ?_, fun j hj => ?_⟩
  · by_cases e : j = i
    · subst e; exact ⟨hd, hhas⟩
    · obtain ⟨h1, t, h2, h3, h4⟩ := h.done j (by omega) hn
      refine ⟨h1, t, h2, ?_, ?_⟩
      · rw [sect_of (hoth (by omega) e)]; exact h3
      · rw [sect_of (hoth (by omega) e)]; exact h4
  · have hne : j ≠ i := by
      rcases hh with hh | hh
      · omega
      · intro e; rw [e] at hh; exact hl hh
    rw [hoth hj hne]
    refine h.rest j hj ?_
    rcases hh with hh | hh
    · exact .inl (by omega)
    · exact .inr hh
  · rw [(h.calm.put hi hsl hdB _).2.2.2.2.2 j hj]
    by_cases e : j = i
    · rw [if_pos e, ← h.len j hj, e]; simp
    · rw [if_neg e]; exact h.len j hj
theorem Round.upto {M k N ID : Nat} {s r : Int} {S : List Nat} {c : Int} {g : Bool} {B0 B : disk.Bn} {i : Nat} (h : Round M k N ID s r S c g B0 B i) (hu : ∀ j, j < M → ∀ t, t < 2 → upto N (sect B0 j t)) (hX : ∀ j : Nat, j < M → sealN (supBlk (N + 1) ID j M s r S c g) = N + 1) :
    ∀ j, j < M → ∀ t, t < 2 → draft.upto (N + 1) (sect B j t) := by
  intro j hj t ht
  by_cases hd : j < i ∧ S.getD j 0 ≠ 1
  · exact (h.done j hd.1 hd.2).2.upto (hX j hj) t ht
  · have := h.rest j hj (by omega)
    unfold sect
    rw [this]
    rcases hu j hj t ht with h1 | h1
    · exact .inl h1
    · exact .inr (Nat.le_succ_of_le h1)
section
variable {lf K : Nat} (hlf : 1000 < lf)
include hlf
variable {G : Heap} {h b : Bk} {id ev m s r : Int} {S : List Nat} {c : Int} {g : Bool} {B : disk.Bn} (hh : HB G h b id ev m s r S c g B) {p q : Bk} {z : Bool} (hc : Caught G h p q z)
include hh hc
theorem usv_dead {i : Nat} (hi : (i : Int) < m) (hfn : fine m s r S c) (h9 : B.rc (i : Int) 0 = 9) (n : Nat) : ret (U lf K (n + 5) 26 [.int .i64 (i : Int), .ptr (some ⟨p, 0⟩), .ptr (some ⟨q, 0⟩)] G) fun v G' => v = .int .i64 9 ∧
    G'.get h = some (.rows false 24 [hcells b id ev m s r (S.set i 1) (loseC S c i) g]) ∧ G'.get q = some (.rows false 1 [[.bool true]]) ∧ Turns (fun c => c = h ∨ c = q) G G' := by
  obtain ⟨v, G1, e1, rfl, t1⟩ := uhput_dead hlf hh (d := (i : Int)) (by rw [h9]; decide) n (K := K)
  rw [h9] at e1
  have hS := hh.hull.len
  have hm16 := (may_t hfn.1).1
  have hiS : i < S.length := by omega
  have hh1 := hh.turns t1
  have hp1 : G1.get p = _ := (t1.same p hc.op (fun h => h)).trans hc.h
  have hq1 : G1.get q = _ := (t1.same q hc.oq (fun h => h)).trans hc.z
  have l3 := hl_r hh1.hull
  rw [ld_get, hh1.hull.own] at l3
  have hpr := put_hr (S' := S.set i 1) hS (by simp [hS]) b id ev m s r c (loseC S c i) g
  have hrw := r_width (S := S.set i 1) (by simp [hS]) m s r (loseC S c i) g
  have hrw0 := r_width hS m s r c g
  have eL : ∀ H : Heap, U lf K (n + 4) 28 [ros m s r S c g, .int .i64 (i : Int)] H = some (.v (.tuple [ros m s r (S.set i 1) (loseC S c i) g, .bool (!(((S[i] : Nat) : Int) == 1))]), H.skip (K + 2)) := fun H => qp_roster_Lose (fun H => by
    obtain ⟨v, H', e, rfl, t⟩ := lose_at H hS hfn hi hiS lf 55 (by omega) (g := g)
    exact ⟨_, H', e, rfl, t⟩)
  unfold ros at eL
  have ho := hh1.hull.old
  refine ret_callU rfl rfl c26_eq ?_
  simp (maxDischargeDepth := 12) only [c26, e1, hc.h, hp1, hq1, l3, hh1.hull.own, eL, hpr, hrw, hrw0, hv, ldO_one, stO_one, sy, tup, ↓reduceIte, Nat.reduceEqDiff, Nat.reduceAdd, Nat.reduceSub, Nat.reduceMul, Nat.reduceDiv, Nat.reduceMod, Nat.reduceLeDiff, Int.reduceBEq, reduceCtorEq]
  obtain ⟨Q, hQ⟩ : ∃ Q : List (Option V × Option V), Q = [(loadF (.t (Tr.path 1)) 1 .sc (Tr.setP (Tr.path 1) (.ptr (some ⟨p, 0⟩)) .e) G1, some (.ptr (some ⟨h, 0⟩))), (loadF (.t (Tr.path 1)) 1 .sc (Tr.setP (Tr.path 1) (.ptr (some ⟨p, 0⟩)) .e) (G1.skip (K + 2)), some (.ptr (some ⟨h, 0⟩)))] := ⟨_, rfl⟩
  rw [endD_q (q := Q) (by kernel_rfl) (by rw [hQ]; kernel_rfl)]
  have hQ' : ∀ x ∈ Q, x.1 = x.2 := by
    rw [hQ]
    intro x hx
    simp only [List.mem_cons, List.not_mem_nil, or_false] at hx
    rcases hx with rfl | rfl <;> simp (maxDischargeDepth := 12) only [hp1, hv, ldO_one, stO_one, sy, tup, ↓reduceIte, Nat.reduceEqDiff, Nat.reduceAdd, Nat.reduceSub, Nat.reduceMul, Nat.reduceDiv, Nat.reduceMod, Nat.reduceLeDiff, Int.reduceBEq, reduceCtorEq]
  have n1 := ne_of_get (b := q) (c := h) hq1 hh1.hull.own (by simp)
  have n2 := ne_of_get (b := h) (c := q) hh1.hull.own hq1 (by simp)
  simp (maxDischargeDepth := 12) only [hq1, hh1.hull.own, n1, n2, hv, ldO_one, stO_one, sy, tup, ↓reduceIte, Nat.reduceEqDiff, Nat.reduceAdd, Nat.reduceSub, Nat.reduceMul, Nat.reduceDiv, Nat.reduceMod, Nat.reduceLeDiff, Int.reduceBEq, reduceCtorEq]
  refine ⟨trivial, .inr trivial, _, rfl, rfl, trivial, trivial, ?_⟩
  refine (t1.wide (fun c hc => hc.elim)).trans ?_
  apply Turns.setr
  refine Turns.owe ?_ hQ'
  repeat (first | exact Turns.refl _ _ | apply Turns.skip | apply Turns.addm | apply Turns.setb | apply Turns.setl | apply Turns.setr | refine Turns.setn ?_ _ (by omega) _ | refine Turns.trans ?_ (tF _))
theorem usv_ok {M k i N ID : Nat} (hm : m = (M : Int)) (hev : ev = (N : Int)) (hd : id = (ID : Int)) (hN : N < 18446744073709551616) (hI : ID < 18446744073709551616) (h1 : evt N = true) (h2 : smay (ID : Int) (i : Int) m s r S c) (hC : Calm M k B) (hk : k ≤ 890) (hi : i < M) (hdd : dead B i = false)
    {X : Nat} (hX : supBlk N ID i m s r S c g = X) (n : Nat) : ret (U lf K (n + 5) 26 [.int .i64 (i : Int), .ptr (some ⟨p, 0⟩), .ptr (some ⟨q, 0⟩)] G) fun v G' => v = .int .i64 0 ∧
    G'.get b = some (bx false (wrB B i (slotI (sect B i 0) (sect B i 1)) X)) ∧ Turns (fun c => c = b) G G' := by
  have r0 : B.rc (i : Int) 0 = 0 := by rw [show (0 : Int) = ((0 : Nat) : Int) from rfl, hC.rc hi (by decide), hdd]; rfl
  have r1 : B.rc (i : Int) 1 = 0 := by rw [show (1 : Int) = ((1 : Nat) : Int) from rfl, hC.rc hi (by decide), hdd]; rfl
  have d0 : B.read (i : Int) 0 = sect B i 0 := hC.read (j := 0) hi (by decide) hdd
  have d1 : B.read (i : Int) 1 = sect B i 1 := hC.read (j := 1) hi (by decide) hdd
  obtain ⟨w0, w1, ok1, len1, _, _⟩ := hC.put hi (slotI_lt (sect B i 0) (sect B i 1)) hdd X
  have hM := hC.le
  obtain ⟨v, G1, e1, rfl, g1, t1⟩ := uhput_ok hlf hh hev hd hN hI h1 h2 r0 r1 (sl := ((slotI (sect B i 0) (sect B i 1) : Nat) : Int)) (by rw [d0, d1, slotI_eq]) hX w0 (ok1.fit (by omega) (fun e => by rw [e] at len1; simp at len1) (by omega)) w1 n (K := K)
  refine ret_callU rfl rfl c26_eq ?_
  simp (maxDischargeDepth := 12) only [c26, e1, hc.h, hv, ldO_one, stO_one, sy, tup, ↓reduceIte, Nat.reduceEqDiff, Nat.reduceAdd, Nat.reduceSub, Nat.reduceMul, Nat.reduceDiv, Nat.reduceMod, Nat.reduceLeDiff, Int.reduceBEq, reduceCtorEq]
  exact ⟨trivial, .inr trivial, _, rfl, rfl, g1, t1⟩
end
end Go.Proofs.Ytabebpemfinejaa.draft

set_option linter.unusedVariables false
set_option linter.unusedSectionVars false
set_option linter.unusedSimpArgs false
set_option maxRecDepth 10000
namespace Go.Proofs.Ytabebpemfinejaa.draft
open Go.Am
open disk (bx Fit A1 R1 Low)
structure Pre (M k N E ID : Nat) (s r : Int) (S : List Nat) (c : Int) (B : disk.Bn) : Prop where
  calm : Calm M k B
  hk : k ≤ 850
  hE : E = N + 1
  hN : N + 1 ≤ 4611686018427387904
  hI : ID < 18446744073709551616
  I0 : ID ≠ 0
  fine : fine (M : Int) s r S c
  upto : ∀ j, j < M → ∀ t, t < 2 → upto N (sect B j t)
theorem Pre.evt {M k N E ID : Nat} {s r : Int} {S : List Nat} {c : Int} {B : disk.Bn} (h : Pre M k N E ID s r S c B) : evt (E : Int) = true := by
  have := h.hN
  have := h.hE
  unfold draft.evt
  rw [decide_eq_true (by omega), decide_eq_true (by omega)]
  rfl
theorem Pre.may {M k N E ID : Nat} {s r : Int} {S : List Nat} {c : Int} {B : disk.Bn} (h : Pre M k N E ID s r S c B) {i : Nat} (hi : i < M) : smay (ID : Int) (i : Int) (M : Int) s r S c := by
  have := h.I0
  exact ⟨by omega, by omega, by omega, h.fine⟩
section
variable {lf K : Nat} (hlf : 1000 < lf)
include hlf
variable {G : Heap} {h b : Bk} {M k N E ID : Nat} {s r : Int} {S : List Nat} {c : Int} {g : Bool} {B : disk.Bn} (hh : HB G h b (ID : Int) (E : Int) (M : Int) s r S c g B) {p q : Bk} {z : Bool} (hc : Caught G h p q z) (hp : Pre M k N E ID s r S c B)
include hh hc hp
def Eached (h b q : Bk) (M k N E ID : Nat) (s r : Int) (S : List Nat) (c : Int) (g : Bool) (B : disk.Bn) (G : Heap) (v : V) (G' : Heap) : Prop :=
  (v = .int .i64 0 ∧ ∃ B', Round M k N ID s r S c g B B' M ∧ G'.get b = some (bx false B') ∧ Turns (fun c => c = b) G G') ∨
  (v = .int .i64 9 ∧ ∃ B' i, i < M ∧ S.getD i 0 ≠ 1 ∧ dead B i = true ∧ Round M k N ID s r S c g B B' i ∧ G'.get b = some (bx false B') ∧
    G'.get h = some (.rows false 24 [hcells b (ID : Int) (E : Int) (M : Int) s r (S.set i 1) (loseC S c i) g]) ∧ G'.get q = some (.rows false 1 [[.bool true]]) ∧ Turns (fun c => c = b ∨ c = h ∨ c = q) G G')
theorem ueach (n : Nat) : ret (U lf K (n + 6) 25 [.ptr (some ⟨h, 0⟩), .func (.func 26) [] [.ptr (some ⟨p, 0⟩), .ptr (some ⟨q, 0⟩)]] G) (Eached h b q M k N E ID s r S c g B G) := by
  have hS := hh.hull.len
  have hM := hp.calm.le
  have hloop : ∀ t : T, t.getP (Tr.path 0) = some (.ptr (some ⟨h, 0⟩)) → t.getP (Tr.path 1) = some (.func (.func 26) [] [.ptr (some ⟨p, 0⟩), .ptr (some ⟨q, 0⟩)]) → t.getP (Tr.path 12) = some (.int .i64 (M : Int)) → t.getP (Tr.path 13) = some (.int .i64 0) →
      wp (loopF (runC (U lf K (n + 5)) lf c25_l0) lf ⟨t, G, []⟩) fun x s' => s'.d = [] ∧ ((x = .ex 0 ∧ Eached h b q M k N E ID s r S c g B G (.int .i64 0) s'.H) ∨ (x = .ret ∧ s'.t.getP (Tr.path 4) = some (.int .i64 9) ∧ Eached h b q M k N E ID s r S c g B G (.int .i64 9) s'.H)) := by
    intro t q0 q1 q12 q13
    refine wp_loopF (fun u s' => ∃ i B', u = M - i ∧ i ≤ M ∧ s'.d = [] ∧ s'.t.getP (Tr.path 0) = some (.ptr (some ⟨h, 0⟩)) ∧ s'.t.getP (Tr.path 1) = some (.func (.func 26) [] [.ptr (some ⟨p, 0⟩), .ptr (some ⟨q, 0⟩)]) ∧ s'.t.getP (Tr.path 12) = some (.int .i64 (M : Int)) ∧ s'.t.getP (Tr.path 13) = some (.int .i64 (i : Int)) ∧ Round M k N ID s r S c g B B' i ∧ s'.H.get b = some (bx false B') ∧ Turns (fun c => c = b) G s'.H)
      ?_ lf M _ ⟨0, B, rfl, Nat.zero_le _, rfl, q0, q1, q12, q13, ⟨by simpa using hp.calm, fun _ _ => rfl, fun j hj => absurd hj (by omega), fun _ _ _ => rfl, fun _ _ => rfl⟩, hh.bench, Turns.refl _ _⟩ (by omega)
    rintro u ⟨t, G1, d⟩ ⟨i, B', rfl, hi, hd, q0, q1, q12, q13, hR, hb1, ht⟩
    dsimp only at hd q0 q1 q12 q13 hb1 ht
    subst hd
    by_cases hlt : i < M
    · have hlt' : (i : Int) < (M : Int) := by omega
      have w1 : IntKind.i64.wrap ((i : Int) + 1) = ((i + 1 : Nat) : Int) := by rw [wrap_i64 (by omega)]; omega
      have hf' : Fit B' := hR.calm.fit (by have := hp.hk; omega)
      have hh1 := hh.step ht hb1 hf'
      have hc1 := hc.step hh.bench ht
      have hst := hl_st hS (i := i) (by omega) b (ID : Int) (E : Int) (M : Int) s r c g
      have hle : i + 1 ≤ 16 := by omega
      have hle2 : 6 + i + 1 ≤ 24 := by omega
      have own := hh1.hull.own
      by_cases hl : S.getD i 0 = 1
      · rw [hl] at hst
        simp (maxDischargeDepth := 12) only [c25_l0, q0, q1, q12, q13, hlt', own, iaddrAF, hle, hle2, hst, one_cast, w1, Nat.mul_one, hv, ldO_one, stO_one, sy, tup, ↓reduceIte, Nat.reduceEqDiff, Nat.reduceAdd, Nat.reduceSub, Nat.reduceMul, Nat.reduceDiv, Nat.reduceMod, Nat.reduceLeDiff, Int.reduceBEq, reduceCtorEq]
        exact ⟨M - (i + 1), by omega, i + 1, B', rfl, by omega, trivial, trivial, trivial, trivial, by simp, hR.skip hl, hb1, ht⟩
      · have hl' : ((((S.getD i 0 : Nat) : Int)) == 1) = false := by rw [beq_eq_false_iff_ne]; intro e; exact hl (by omega)
        cases hdd : dead B i with
        | true =>
          have r9 : B'.rc (i : Int) 0 = 9 := by rw [show (0 : Int) = ((0 : Nat) : Int) from rfl, hR.calm.rc hlt (by decide), hR.dd i hlt, hdd]; rfl
          obtain ⟨v, G2, e2, rfl, h1, h2, h3⟩ := usv_dead hlf hh1 hc1 (i := i) hlt' hp.fine r9 n (K := K)
          simp (maxDischargeDepth := 12) only [c25_l0, q0, q1, q12, q13, hlt', own, iaddrAF, hle, hle2, hst, hl', e2, Nat.mul_one, hv, ldO_one, stO_one, sy, tup, ↓reduceIte, Nat.reduceEqDiff, Nat.reduceAdd, Nat.reduceSub, Nat.reduceMul, Nat.reduceDiv, Nat.reduceMod, Nat.reduceLeDiff, Int.reduceBEq, reduceCtorEq]
          refine ⟨trivial, .inr ⟨trivial, trivial, .inr ⟨rfl, B', i, hlt, hl, hdd, hR, ?_, h1, h2, ?_⟩⟩⟩
          · rw [h3.same b hh1.old (fun e => ?_), hb1]
            have n1 := hh1.ne
            have n2 := ne_of_get hc1.z hb1 (by intro e; cases e)
            rcases e with e | e
            · have e' := e.symm; rw [n1] at e'; exact e'
            · have e' := e.symm; rw [n2] at e'; exact e'
          · exact (ht.wide (fun c hc => .inl hc)).trans (h3.wide (fun c hc => .inr hc))
        | false =>
          have hdB : dead B' i = false := (hR.dd i hlt).trans hdd
          obtain ⟨v, G2, e2, rfl, h1, h2⟩ := usv_ok hlf hh1 hc1 (M := M) (N := E) (ID := ID) rfl rfl rfl (by have := hp.hE; have := hp.hN; omega) hp.hI hp.evt (hp.may hlt) hR.calm (by have := hp.hk; omega) hlt hdB rfl n (K := K)
          simp (maxDischargeDepth := 12) only [c25_l0, q0, q1, q12, q13, hlt', own, iaddrAF, hle, hle2, hst, hl', e2, w1, Nat.mul_one, hv, ldO_one, stO_one, sy, tup, ↓reduceIte, Nat.reduceEqDiff, Nat.reduceAdd, Nat.reduceSub, Nat.reduceMul, Nat.reduceDiv, Nat.reduceMod, Nat.reduceLeDiff, Int.reduceBEq, reduceCtorEq]
          refine ⟨M - (i + 1), by omega, i + 1, _, rfl, by omega, trivial, trivial, trivial, trivial, by simp, ?_, h1, ht.trans h2⟩
          have hE := hp.hE
          subst hE
          exact hR.put hlt hl hdd hp.upto
    · have : i = M := by omega
      subst this
      simp (maxDischargeDepth := 12) only [c25_l0, q0, q1, q12, q13, Int.lt_irrefl, hv, ldO_one, stO_one, sy, tup, ↓reduceIte, Nat.reduceEqDiff, Nat.reduceAdd, Nat.reduceSub, Nat.reduceMul, Nat.reduceDiv, Nat.reduceMod, Nat.reduceLeDiff, Int.reduceBEq, reduceCtorEq]
      exact ⟨trivial, .inl ⟨trivial, .inl ⟨rfl, B', hR, hb1, ht⟩⟩⟩
  have l3 := hl_r hh.hull
  have lm : cut (hcells b (ID : Int) (E : Int) (M : Int) s r S c g) 3 1 = some [.int .i64 (M : Int)] := rfl
  have own := hh.hull.own
  refine ret_callU rfl rfl c25_eq ?_
  simp (maxDischargeDepth := 12) only [c25, own, lm, hv, ldO_one, stO_one, sy, tup, ↓reduceIte, Nat.reduceEqDiff, Nat.reduceAdd, Nat.reduceSub, Nat.reduceMul, Nat.reduceDiv, Nat.reduceMod, Nat.reduceLeDiff, Int.reduceBEq, reduceCtorEq]
  refine wp_ctx (F := fun r => seqC _ _ _ (blockC _ r)) (hloop _ ?_ ?_ ?_ ?_) ?_
  · simp only [sy, tup, ↓reduceIte, Nat.reduceEqDiff, Nat.reduceAdd, Nat.reduceSub, Nat.reduceMul, Nat.reduceDiv, Nat.reduceMod, Nat.reduceLeDiff, Int.reduceBEq, reduceCtorEq]
  · simp only [sy, tup, ↓reduceIte, Nat.reduceEqDiff, Nat.reduceAdd, Nat.reduceSub, Nat.reduceMul, Nat.reduceDiv, Nat.reduceMod, Nat.reduceLeDiff, Int.reduceBEq, reduceCtorEq]
  · simp only [sy, tup, ↓reduceIte, Nat.reduceEqDiff, Nat.reduceAdd, Nat.reduceSub, Nat.reduceMul, Nat.reduceDiv, Nat.reduceMod, Nat.reduceLeDiff, Int.reduceBEq, reduceCtorEq]
  · simp only [sy, tup, ↓reduceIte, Nat.reduceEqDiff, Nat.reduceAdd, Nat.reduceSub, Nat.reduceMul, Nat.reduceDiv, Nat.reduceMod, Nat.reduceLeDiff, Int.reduceBEq, reduceCtorEq]
  rintro x ⟨t, G1, d⟩ ⟨rfl, ⟨rfl, he⟩ | ⟨rfl, q4, he⟩⟩
  · dsimp only at he
    simp only [sy, tup, ↓reduceIte, Nat.reduceEqDiff, Nat.reduceAdd, Nat.reduceSub, Nat.reduceMul, Nat.reduceDiv, Nat.reduceMod, Nat.reduceLeDiff, Int.reduceBEq, reduceCtorEq]
    exact ⟨trivial, .inr trivial, _, rfl, he⟩
  · dsimp only at q4 he
    simp only [q4, sy, tup, ↓reduceIte, Nat.reduceEqDiff, Nat.reduceAdd, Nat.reduceSub, Nat.reduceMul, Nat.reduceDiv, Nat.reduceMod, Nat.reduceLeDiff, Int.reduceBEq, reduceCtorEq]
    exact ⟨trivial, .inr trivial, _, rfl, he⟩
end
end Go.Proofs.Ytabebpemfinejaa.draft

set_option linter.unusedVariables false
set_option linter.unusedSectionVars false
set_option linter.unusedSimpArgs false
set_option maxRecDepth 10000
namespace Go.Proofs.Ytabebpemfinejaa.draft
open Go.Am
open disk (bx Fit A1 R1 Low)
def mu (B : disk.Bn) (S : List Nat) : Nat → Nat
  | 0 => 0
  | n + 1 => mu B S n + if dead B n = true ∧ S.getD n 0 ≠ 1 then 1 else 0
theorem mu_le (B : disk.Bn) (S : List Nat) : ∀ n, mu B S n ≤ n
  | 0 => Nat.le_refl _
  | n + 1 => by
    have := mu_le B S n
    unfold mu
    split <;> omega
theorem mu_congr {B B' : disk.Bn} {S : List Nat} : ∀ {n : Nat}, (∀ j, j < n → dead B' j = dead B j) → mu B' S n = mu B S n
  | 0, _ => rfl
  | n + 1, h => by
    unfold mu
    rw [mu_congr (fun j hj => h j (by omega)), h n (by omega)]
theorem getD_set {S : List Nat} {i : Nat} (hi : i < S.length) (j x : Nat) : (S.set i x).getD j 0 = if j = i then x else S.getD j 0 := by
  simp only [List.getD]
  by_cases e : j = i
  · subst e; rw [List.getElem?_set_self hi, if_pos rfl]; rfl
  · rw [List.getElem?_set_ne (Ne.symm e), if_neg e]
theorem mu_set {B : disk.Bn} {S : List Nat} {i : Nat} (hi : i < S.length) (hd : dead B i = true) (hs : S.getD i 0 ≠ 1) : ∀ n, mu B (S.set i 1) n + (if i < n then 1 else 0) = mu B S n
  | 0 => rfl
  | n + 1 => by
    have ih := mu_set hi hd hs n
    unfold mu
    rw [getD_set hi]
    by_cases e : n = i
    · subst e
      rw [if_neg (Nat.lt_irrefl _)] at ih
      rw [if_pos rfl, if_neg (fun h => h.2 rfl), if_pos (by omega), if_pos ⟨hd, hs⟩]
      omega
    · rw [if_neg e]
      generalize (if dead B n = true ∧ S.getD n 0 ≠ 1 then (1 : Nat) else 0) = w
      by_cases hlt : i < n
      · rw [if_pos hlt] at ih
        rw [if_pos (by omega)]
        omega
      · rw [if_neg hlt] at ih
        rw [if_neg (by omega)]
        omega
structure Ready (M k E ID : Nat) (s r : Int) (S : List Nat) (c : Int) (B : disk.Bn) : Prop where
  calm : Calm M k B
  hk : k + 32 * mu B S M ≤ 800
  hE : E + mu B S M + 1 ≤ 4611686018427387904
  hI : ID < 18446744073709551616
  I0 : ID ≠ 0
  fine : fine (M : Int) s r S c
  upto : ∀ j, j < M → ∀ t, t < 2 → upto E (sect B j t)
theorem Ready.pre {M k E ID : Nat} {s r : Int} {S : List Nat} {c : Int} {B : disk.Bn} (h : Ready M k E ID s r S c B) : Pre M k E (E + 1) ID s r S c B :=
  ⟨h.calm, by have := h.hk; omega, rfl, by have := h.hE; omega, h.hI, h.I0, h.fine, h.upto⟩
structure Saved (M E ID : Nat) (s r : Int) (S : List Nat) (g : Bool) (B : disk.Bn) (E' : Nat) (S' : List Nat) (c' : Int) (B' : disk.Bn) : Prop where
  calm : ∃ k, k ≤ 850 ∧ Calm M k B'
  ev : E < E' ∧ E' ≤ E + mu B S M + 1
  fine : fine (M : Int) s r S' c'
  len : S'.length = 16
  st : ∀ j, S'.getD j 0 = S.getD j 0 ∨ (S'.getD j 0 = 1 ∧ j < M ∧ dead B j = true)
  has : ∀ j, j < M → S'.getD j 0 ≠ 1 → dead B j = false ∧ hasX B' j (E' - 1) (supBlk E' ID j M s r S' c' g)
  dd : ∀ j, j < M → dead B' j = dead B j
  sz : ∀ j : Nat, j < M + 1 → (B'.dev (j : Int)).S.length = (B.dev (j : Int)).S.length
structure Mid (M E ID : Nat) (s r : Int) (S : List Nat) (B : disk.Bn) (k1 E1 : Nat) (S1 : List Nat) (c1 : Int) (B1 : disk.Bn) : Prop where
  ready : Ready M k1 E1 ID s r S1 c1 B1
  ev : E ≤ E1 ∧ E1 + mu B1 S1 M ≤ E + mu B S M
  len : S1.length = 16
  st : ∀ j, S1.getD j 0 = S.getD j 0 ∨ (S1.getD j 0 = 1 ∧ j < M ∧ dead B j = true)
  dd : ∀ j, j < M → dead B1 j = dead B j
  sz : ∀ j : Nat, j < M + 1 → (B1.dev (j : Int)).S.length = (B.dev (j : Int)).S.length
theorem sup_back {M N ID : Nat} {s r : Int} {S : List Nat} {c : Int} (h1 : evt (N : Int) = true) (hI : ID < 18446744073709551616) (hM : M ≤ 16) {j : Nat} (hmay : smay (ID : Int) (j : Int) (M : Int) s r S c) (hS : S.length = 16) (g : Bool) {X : Nat} (hX0 : X = supBlk N ID j M s r S c g) :
    getE X = 0 ∧ sealN X = N ∧ fld X 0 8 = ID ∧ fld X 13 1 = j ∧ fld X 8 1 = M ∧ ((fld X 9 2 : Nat) : Int) = s ∧ ((fld X 11 2 : Nat) : Int) = r ∧ ((fld X 18 2 : Nat) : Int) = c ∧ gSt X = S ∧ (((fld X 20 1 : Nat) : Int) == 1) = g := by
  obtain ⟨m1, m2, m3, m4⟩ := hmay
  obtain ⟨bm, bs, br⟩ := may_t m4.1
  clear bm
  obtain ⟨f1, hok, f3, hc0, hc1, f6⟩ := m4
  unfold draft.evt at h1
  simp only [Bool.and_eq_true, decide_eq_true_eq] at h1
  have hS4 : ∀ i, i < 16 → S.getD i 0 < 4 := fun i hi => by
    have hiS : i < S.length := by omega
    have := (hok i hi S[i] (by rw [List.getElem?_eq_getElem hiS])).1
    rw [List.getD, List.getElem?_eq_getElem hiS]
    show S[i] < 4
    omega
  have hb : Back N ID j M s.toNat r.toNat S c.toNat g := ⟨by omega, by omega, hI, by omega, by omega, by omega, by omega, by omega, hS, hS4⟩
  have hX : X = blkOf N (bodyN ID j M s.toNat r.toNat S c.toNat g) := by
    rw [hX0]
    unfold supBlk
    simp
  obtain ⟨a1, a2, a3, a4, a5, a6, a7, a8, a9, a10, a11, a12, a13⟩ := back_ok hb hX
  have e6 : ((fld X 9 2 : Nat) : Int) = s := by rw [a6]; omega
  have e7 : ((fld X 11 2 : Nat) : Int) = r := by rw [a7]; omega
  have e8 : ((fld X 18 2 : Nat) : Int) = c := by rw [a8]; omega
  refine ⟨?_, a2, a3, a4, a5, e6, e7, e8, a9, a10⟩
  unfold getE
  rw [if_neg (by rw [a1]; decide), if_pos]
  refine ⟨?_, ?_, a11, a12⟩
  · rw [a2]; unfold draft.evt; simp only [Bool.and_eq_true, decide_eq_true_eq]; exact h1
  · rw [a3, a4, a5, e6, e7, e8, a9]
    exact ⟨m1, m2, m3, f1, hok, f3, hc0, hc1, f6⟩
theorem sup_num {M k E ID : Nat} {s r : Int} {S : List Nat} {c : Int} {B : disk.Bn} (h : Pre M k E (E + 1) ID s r S c B) (hS : S.length = 16) (g : Bool) {j : Nat} (hj : j < M) : sealN (supBlk (E + 1) ID j M s r S c g) = E + 1 ∧ getE (supBlk (E + 1) ID j M s r S c g) = 0 := by
  have := sup_back h.evt h.hI h.calm.le (h.may hj) hS g rfl
  exact ⟨this.2.1, this.1⟩
theorem Mid.lose {M E ID k1 E1 : Nat} {s r : Int} {S S1 : List Nat} {c1 : Int} {B B1 B2 : disk.Bn} {g : Bool} (h : Mid M E ID s r S B k1 E1 S1 c1 B1) {i : Nat} (hi : i < M) (hs : S1.getD i 0 ≠ 1) (hd : dead B1 i = true) (hR : Round M k1 E1 ID s r S1 c1 g B1 B2 i) :
    Mid M E ID s r S B (k1 + 2 * i) (E1 + 1) (S1.set i 1) (loseC S1 c1 i) B2 := by
  have hM := h.ready.calm.le
  have hl := h.len
  have hmu := mu_set (B := B1) (i := i) (S := S1) (by omega) hd hs M
  rw [if_pos hi] at hmu
  have hmc := mu_congr (B := B1) (B' := B2) (S := S1.set i 1) hR.dd
  have hev := h.ev
  have hk := h.ready.hk
  have hE := h.ready.hE
  refine ⟨⟨hR.calm, by omega, by omega, h.ready.hI, h.ready.I0, lose_fine hl h.ready.fine (by omega), ?_⟩, by omega, by simpa using hl, fun j => ?_, fun j hj => (hR.dd j hj).trans (h.dd j hj), fun j hj => (hR.len j hj).trans (h.sz j hj)⟩
  · exact hR.upto h.ready.upto (fun j hj => (sup_num h.ready.pre hl g hj).1)
  · rw [getD_set (by omega)]
    by_cases e : j = i
    · rw [if_pos e]
      exact .inr ⟨rfl, by omega, by rw [e, ← h.dd i hi]; exact hd⟩
    · rw [if_neg e]; exact h.st j
theorem Mid.done {M E ID k1 E1 : Nat} {s r : Int} {S S1 : List Nat} {c1 : Int} {B B1 B2 : disk.Bn} {g : Bool} (h : Mid M E ID s r S B k1 E1 S1 c1 B1) (hR : Round M k1 E1 ID s r S1 c1 g B1 B2 M) : Saved M E ID s r S g B (E1 + 1) S1 c1 B2 := by
  have hev := h.ev
  have hk := h.ready.hk
  have hM := h.ready.calm.le
  refine ⟨⟨_, by omega, hR.calm⟩, by omega, h.ready.fine, h.len, h.st, fun j hj hs => ?_, fun j hj => (hR.dd j hj).trans (h.dd j hj), fun j hj => (hR.len j hj).trans (h.sz j hj)⟩
  obtain ⟨h1, h2⟩ := hR.done j hj hs
  exact ⟨by rw [← h.dd j hj]; exact h1, h2⟩
theorem Turns.drop {X : Bk → Prop} {q : Bk} {H G G' : Heap} (h : Turns X H G) (k : Turns (fun c => X c ∨ c = q) G G') (hq : ¬ H.Old q) : Turns X H G' :=
  ⟨Nat.le_trans h.next k.next, fun c hc hx => (k.same c (hc.mono h.next) (fun e => by
    rcases e with e | e
    · exact hx e
    · exact hq (by rw [← e]; exact hc))).trans (h.same c hc hx), fun q => k.q (h.q q)⟩
theorem Caught.again {G : Heap} {h p q : Bk} {z : Bool} (x : Caught G h p q z) (z' : Bool) : Caught ((G.add (.rows false 1 [[.bool false]])).set (.run G.next) (.rows false 1 [[.bool z']])) h p (.run G.next) z' ∧ Turns Z G ((G.add (.rows false 1 [[.bool false]])).set (.run G.next) (.rows false 1 [[.bool z']])) := by
  have t : Turns Z G ((G.add (.rows false 1 [[.bool false]])).set (.run G.next) (.rows false 1 [[.bool z']])) := (Turns.add Z G _).setnew (Nat.le_refl _) _
  exact ⟨⟨(t.same p x.op (fun h => h)).trans x.h, by rw [Heap.get_set, if_pos rfl], x.op.mono t.next, by show _ < _; simp⟩, t⟩
section
variable {lf K : Nat} (hlf : 1000 < lf)
include hlf
theorem unone {G : Heap} {h b : Bk} {id ev m s r : Int} {S : List Nat} {c : Int} {g : Bool} {B : disk.Bn} (hh : HB G h b id ev m s r S c g B) (n : Nat) : U lf K (n + 1) 24 [.ptr (some ⟨h, 0⟩)] G = some (.v (.bool false), G) := by
  have l := hl_b hh.hull
  obtain ⟨v, H', e, rfl, rfl⟩ : ret (U lf K (n + 1) 24 [.ptr (some ⟨h, 0⟩)] G) fun v H' => v = .bool false ∧ H' = G := by
    refine ret_callU rfl rfl c24_eq ?_
    simp only [c24, l, sy, tup, ↓reduceIte, Nat.reduceEqDiff, Nat.reduceAdd, Nat.reduceSub, Nat.reduceMul, Nat.reduceDiv, Nat.reduceMod, Nat.reduceLeDiff, Int.reduceBEq, reduceCtorEq]
    simp
  exact e
theorem usave {G : Heap} {h b : Bk} {M k E ID : Nat} {s r : Int} {S : List Nat} {c : Int} {g : Bool} {B : disk.Bn} (hh : HB G h b (ID : Int) (E : Int) (M : Int) s r S c g B) (hp : Ready M k E ID s r S c B) (hM : 1 ≤ M) (hlf2 : 100 < lf) (n : Nat) :
    ret (U lf K (n + 7) 8 [.ptr (some ⟨h, 0⟩)] G) fun v G' => v = .int .i64 0 ∧ ∃ E' S' c' B', Saved M E ID s r S g B E' S' c' B' ∧ HB G' h b (ID : Int) (E' : Int) (M : Int) s r S' c' g B' ∧ Turns (fun c => c = b ∨ c = h) G G' := by
  have en : ∀ H : Heap, HB H h b (ID : Int) (E : Int) (M : Int) s r S c g B → U lf K (n + 6) 24 [.ptr (some ⟨h, 0⟩)] H = some (.v (.bool false), H) := fun H x => unone hlf x (n + 5)
  have t1 := Turns.add Z G (.rows false 1 [[.ptr (some ⟨h, 0⟩)]])
  have hh1 := hh.turns t1
  have en1 := en _ hh1
  refine ret_callU rfl rfl c8_eq ?_
  simp (maxDischargeDepth := 12) only [c8, en1, hv, ldO_one, stO_one, sy, tup, ↓reduceIte, Nat.reduceEqDiff, Nat.reduceAdd, Nat.reduceSub, Nat.reduceMul, Nat.reduceDiv, Nat.reduceMod, Nat.reduceLeDiff, Int.reduceBEq, reduceCtorEq]
  have hloop : ∀ (t : T) (G1 : Heap) (nq : Nat), t.getP (Tr.path 1) = some (.ptr (some ⟨.run G.next, 0⟩)) → t.getP (Tr.path 3) = some (.ptr (some ⟨.run nq, 0⟩)) → G.next + 1 ≤ nq → Caught G1 h (.run G.next) (.run nq) true → HB G1 h b (ID : Int) (E : Int) (M : Int) s r S c g B → Turns (fun c => c = b ∨ c = h) G G1 →
      wp (loopF (runC (U lf K (n + 6)) lf c8_l0) lf ⟨t, G1, []⟩) fun x s' => x = .ex 0 ∧ s'.d = [] ∧ ∃ E' S' c' B', Saved M E ID s r S g B E' S' c' B' ∧ HB s'.H h b (ID : Int) (E' : Int) (M : Int) s r S' c' g B' ∧ Turns (fun c => c = b ∨ c = h) G s'.H := by
    intro t G1 nq q1 q3 hq hc hh1 ht
    have hmuM := mu_le B S M
    refine wp_loopF (fun u s' => s'.d = [] ∧ s'.t.getP (Tr.path 1) = some (.ptr (some ⟨.run G.next, 0⟩)) ∧ ∃ nq z, s'.t.getP (Tr.path 3) = some (.ptr (some ⟨.run nq, 0⟩)) ∧ G.next + 1 ≤ nq ∧ Caught s'.H h (.run G.next) (.run nq) z ∧ Turns (fun c => c = b ∨ c = h) G s'.H ∧
        ((z = true ∧ ∃ k1 E1 S1 c1 B1, u = mu B1 S1 M + 1 ∧ Mid M E ID s r S B k1 E1 S1 c1 B1 ∧ HB s'.H h b (ID : Int) (E1 : Int) (M : Int) s r S1 c1 g B1) ∨
          (z = false ∧ u = 0 ∧ ∃ E' S' c' B', Saved M E ID s r S g B E' S' c' B' ∧ HB s'.H h b (ID : Int) (E' : Int) (M : Int) s r S' c' g B')))
      ?_ lf (mu B S M + 1) _ ⟨rfl, q1, nq, true, q3, hq, hc, ht, .inl ⟨rfl, k, E, S, c, B, rfl, ⟨hp, by omega, hh.hull.len, fun j => .inl rfl, fun _ _ => rfl, fun _ _ => rfl⟩, hh1⟩⟩ (by have := hp.calm.le; omega)
    rintro u ⟨t, G2, d⟩ ⟨hd, q1, nq, z, q3, hq, hc, ht, ⟨rfl, k1, E1, S1, c1, B1, rfl, hM1, hh2⟩ | ⟨rfl, rfl, hsaved⟩⟩
    · dsimp only at hd q1 q3 hc ht hh2
      subst hd
      have hcz := hc.z
      have hch := hc.h
      have own := hh2.hull.own
      have n1 := ne_of_get hc.h own (by simp)
      have n2 := ne_of_get hc.z own (by simp)
      have n3 := ne_of_get own hc.z (by simp)
      have n4 := ne_of_get own hc.h (by simp)
      have n5 := ne_of_get hc.h hh2.bench (by intro e; cases e)
      have n6 := ne_of_get hc.z hh2.bench (by intro e; cases e)
      have n7 : (G.next = nq) = False := by simp; omega
      have n8 : (nq = G.next) = False := by simp; omega
      obtain ⟨E2, hE2⟩ : ∃ e, e = E1 + 1 := ⟨_, rfl⟩
      have lev : cut (hcells b (ID : Int) (E1 : Int) (M : Int) s r S1 c1 g) 2 1 = some [.int .u64 (E1 : Int)] := rfl
      have pev := put_hev (S := S1) b (ID : Int) (E1 : Int) (E2 : Int) (M : Int) s r c1 g
      have hlim := hM1.ready.hE
      have wev : IntKind.u64.wrap ((E1 : Int) + 1) = (E2 : Int) := by
        rw [show (E1 : Int) + 1 = (E2 : Int) by omega]
        exact wrap_u64 (by omega)
      have hpre : Pre M k1 E1 E2 ID s r S1 c1 B1 := by rw [hE2]; exact hM1.ready.pre
      have gA : ∀ x : Bk, ((G2.set (.run nq) (.rows false 1 [[.bool false]])).set h (.rows false 24 [hcells b (ID : Int) (E2 : Int) (M : Int) s r S1 c1 g])).get x = if x = h then some (.rows false 24 [hcells b (ID : Int) (E2 : Int) (M : Int) s r S1 c1 g]) else if x = .run nq then some (.rows false 1 [[.bool false]]) else G2.get x := fun x => by rw [Heap.get_set, Heap.get_set]
      have hbA : HB ((G2.set (.run nq) (.rows false 1 [[.bool false]])).set h (.rows false 24 [hcells b (ID : Int) (E2 : Int) (M : Int) s r S1 c1 g])) h b (ID : Int) (E2 : Int) (M : Int) s r S1 c1 g B1 := by
        refine ⟨⟨by rw [gA, if_pos rfl], hM1.len, by simpa using hh2.hull.old⟩, ?_, by simpa using hh2.old, hh2.fit⟩
        have m1 := hh2.ne
        rw [gA, if_neg (fun e => by have e' := e.symm; rw [m1] at e'; exact e'), if_neg (fun e => by have e' := e.symm; rw [n6] at e'; exact e')]
        exact hh2.bench
      have hcA : Caught ((G2.set (.run nq) (.rows false 1 [[.bool false]])).set h (.rows false 24 [hcells b (ID : Int) (E2 : Int) (M : Int) s r S1 c1 g])) h (.run G.next) (.run nq) false := by
        refine ⟨?_, ?_, by simpa using hc.op, by simpa using hc.oq⟩
        · rw [gA, if_neg (fun e => by rw [n1] at e; exact e), if_neg (by simp; omega)]; exact hc.h
        · rw [gA, if_neg (fun e => by rw [n2] at e; exact e), if_pos rfl]
      have tA : Turns (fun c => c = b ∨ c = h) G ((G2.set (.run nq) (.rows false 1 [[.bool false]])).set h (.rows false 24 [hcells b (ID : Int) (E2 : Int) (M : Int) s r S1 c1 g])) := by
        refine Turns.setr (Turns.setn ht nq (by omega) _) _
      obtain ⟨v, G3, e3, he⟩ := ueach hlf hbA hcA hpre n (K := K)
      rcases he with ⟨rfl, B2, hR, hb3, ht3⟩ | ⟨rfl, B2, i, hi, hs, hdd, hR, hb3, hown3, hz3, ht3⟩
      · have hf3 : Fit B2 := hR.calm.fit (by have := hM1.ready.hk; have := hM1.ready.calm.le; omega)
        have hh3 := hbA.step ht3 hb3 hf3
        have hc3 := hcA.step hbA.bench ht3
        simp (maxDischargeDepth := 12) only [c8_l0, mkfnF, q1, q3, hcz, hch, own, n1, n2, n3, n4, n7, n8, lev, pev, wev, e3, hc3.h, hc3.z, hv, ldO_one, stO_one, sy, tup, ↓reduceIte, Nat.reduceEqDiff, Nat.reduceAdd, Nat.reduceSub, Nat.reduceMul, Nat.reduceDiv, Nat.reduceMod, Nat.reduceLeDiff, Int.reduceBEq, reduceCtorEq]
        obtain ⟨ca, ta⟩ := hc3.again false
        refine ⟨0, by omega, trivial, trivial, G3.next, false, rfl, ?_, ca, ?_, .inr ⟨rfl, rfl, E2, S1, c1, B2, ?_, hh3.turns ta⟩⟩
        · have := tA.next; have := ht3.next; have := hc3.op; have h' : G.next < G3.next := this; omega
        · exact (tA.trans (ht3.wide (fun c hc => .inl hc))).trans (ta.wide (fun c hc => hc.elim))
        · rw [hE2]; exact hM1.done hR
      · have hf3 : Fit B2 := hR.calm.fit (by have := hM1.ready.hk; have := hM1.ready.calm.le; omega)
        have tq : Turns (fun c => c = b ∨ c = h) G G3 := Turns.drop (q := .run nq) tA (ht3.wide (fun c hc => by
          rcases hc with hc | hc | hc
          · exact .inl (.inl hc)
          · exact .inl (.inr hc)
          · exact .inr hc)) (Heap.not_old (by omega))
        have hopG : (.run G.next : Bk) ≠ b ∧ (.run G.next : Bk) ≠ h ∧ (.run G.next : Bk) ≠ .run nq := ⟨fun e => by rw [n5] at e; exact e, fun e => by rw [n1] at e; exact e, by simp; omega⟩
        have hcp : G3.get (.run G.next) = some (.rows false 1 [[.ptr (some ⟨h, 0⟩)]]) := (ht3.same _ hcA.op (fun e => by
          rcases e with e | e | e
          · exact hopG.1 e
          · exact hopG.2.1 e
          · exact hopG.2.2 e)).trans hcA.h
        have hc3 : Caught G3 h (.run G.next) (.run nq) true := ⟨hcp, hz3, hcA.op.mono ht3.next, hcA.oq.mono ht3.next⟩
        have hh3 : HB G3 h b (ID : Int) (E2 : Int) (M : Int) s r (S1.set i 1) (loseC S1 c1 i) g B2 := ⟨⟨hown3, by simp [hM1.len], hbA.hull.old.mono ht3.next⟩, hb3, hbA.old.mono ht3.next, hf3⟩
        simp (maxDischargeDepth := 12) only [c8_l0, mkfnF, q1, q3, hcz, hch, own, n1, n2, n3, n4, n7, n8, lev, pev, wev, e3, hc3.h, hc3.z, hv, ldO_one, stO_one, sy, tup, ↓reduceIte, Nat.reduceEqDiff, Nat.reduceAdd, Nat.reduceSub, Nat.reduceMul, Nat.reduceDiv, Nat.reduceMod, Nat.reduceLeDiff, Int.reduceBEq, reduceCtorEq]
        obtain ⟨ca, ta⟩ := hc3.again true
        have hmid := hM1.lose hi hs hdd hR
        rw [← hE2] at hmid
        have hmu := mu_set (B := B1) (i := i) (S := S1) (by have := hM1.len; have := hM1.ready.calm.le; omega) hdd hs M
        rw [if_pos hi] at hmu
        have hmc := mu_congr (B := B1) (B' := B2) (S := S1.set i 1) hR.dd
        refine ⟨mu B2 (S1.set i 1) M + 1, by omega, trivial, trivial, G3.next, true, rfl, ?_, ca, tq.trans (ta.wide (fun c hc => hc.elim)), .inl ⟨rfl, _, E2, _, _, B2, rfl, hmid, hh3.turns ta⟩⟩
        have := hc3.op; have h' : G.next < G3.next := this; omega
    · dsimp only at hd q1 q3 hc ht hsaved
      subst hd
      have hcz := hc.z
      simp (maxDischargeDepth := 12) only [c8_l0, q1, q3, hcz, hv, ldO_one, stO_one, sy, tup, ↓reduceIte, Nat.reduceEqDiff, Nat.reduceAdd, Nat.reduceSub, Nat.reduceMul, Nat.reduceDiv, Nat.reduceMod, Nat.reduceLeDiff, Int.reduceBEq, reduceCtorEq]
      exact ⟨trivial, trivial, hsaved.imp fun E' h => h.imp fun S' h => h.imp fun c' h => h.imp fun B' h => ⟨h.1, h.2, ht⟩⟩
  have hcS : Caught (((G.add (.rows false 1 [[.ptr (some ⟨h, 0⟩)]])).add (.rows false 1 [[.bool false]])).set (.run (G.next + 1)) (.rows false 1 [[.bool true]])) h (.run G.next) (.run (G.next + 1)) true := by
    refine ⟨?_, by rw [Heap.get_set, if_pos rfl], by show _ < _; simp; omega, by show _ < _; simp⟩
    rw [Heap.get_set, if_neg (by simp), Heap.get_add, if_neg (by simp), Heap.get_add, if_pos rfl]
  have t2 : Turns Z G (((G.add (.rows false 1 [[.ptr (some ⟨h, 0⟩)]])).add (.rows false 1 [[.bool false]])).set (.run (G.next + 1)) (.rows false 1 [[.bool true]])) := by
    refine Turns.setn ?_ _ (by omega) _
    repeat (first | exact Turns.refl _ _ | apply Turns.skip | apply Turns.addm | apply Turns.setb | apply Turns.setl | apply Turns.setr | refine Turns.setn ?_ _ (by omega) _ | refine Turns.trans ?_ (tF _))
  refine wp_ctx (F := fun r => seqC _ _ _ (blockC _ r)) (hloop _ _ (G.next + 1) ?_ ?_ (Nat.le_refl _) hcS (hh.turns t2) (t2.wide (fun c hc => hc.elim))) ?_
  · simp only [sy, tup, ↓reduceIte, Nat.reduceEqDiff, Nat.reduceAdd, Nat.reduceSub, Nat.reduceMul, Nat.reduceDiv, Nat.reduceMod, Nat.reduceLeDiff, Int.reduceBEq, reduceCtorEq]
  · simp only [sy, tup, ↓reduceIte, Nat.reduceEqDiff, Nat.reduceAdd, Nat.reduceSub, Nat.reduceMul, Nat.reduceDiv, Nat.reduceMod, Nat.reduceLeDiff, Int.reduceBEq, reduceCtorEq]
  rintro x ⟨t, G1, d⟩ ⟨rfl, hd, hs⟩
  dsimp only at hd hs
  subst hd
  simp only [sy, tup, ↓reduceIte, Nat.reduceEqDiff, Nat.reduceAdd, Nat.reduceSub, Nat.reduceMul, Nat.reduceDiv, Nat.reduceMod, Nat.reduceLeDiff, Int.reduceBEq, reduceCtorEq]
  exact ⟨trivial, .inr trivial, _, rfl, rfl, hs⟩
end
end Go.Proofs.Ytabebpemfinejaa.draft

set_option linter.unusedVariables false
set_option linter.unusedSectionVars false
set_option linter.unusedSimpArgs false
set_option maxRecDepth 10000
namespace Go.Proofs.Ytabebpemfinejaa.draft
open Go.Am
open disk (bx Fit A1 R1 Low)
noncomputable def c5 : CFn := ⟨[.cell (pp 2) 21 .ag, .tmp (pp 3)],
 .seq (.reg [
 qo 1 (.m (boxF 3 (tt 0))) [pp 0],
 qo 2 (.m (allocF 21 [.int .i64 0, .int .i64 0, .int .i64 0, .int .u8 0, .int .u8 0, .int .u8 0, .int .u8 0, .int .u8 0, .int .u8 0, .int .u8 0, .int .u8 0, .int .u8 0, .int .u8 0, .int .u8 0, .int .u8 0, .int .u8 0, .int .u8 0, .int .u8 0, .int .u8 0, .int .i64 0, .bool false])) [],
 qo 3 (.p (S.get (ii 0))) []]) (
 .seq (.reg [
 qo 5 (.r (loadF (tt 1) 3 .ag)) [pp 1],
 qo 6 (.p (buildF [.int .i64 0, .int .i64 0, .int .i64 0, .int .u8 0, .int .u8 0, .int .u8 0, .int .u8 0, .int .u8 0, .int .u8 0, .int .u8 0, .int .u8 0, .int .u8 0, .int .u8 0, .int .u8 0, .int .u8 0, .int .u8 0, .int .u8 0, .int .u8 0, .int .u8 0, .int .i64 0, .bool false] .ag [(0, 3, (tt 5))])) [pp 5],
 qo 4 (.m (allocF 21 [.int .i64 0, .int .i64 0, .int .i64 0, .int .u8 0, .int .u8 0, .int .u8 0, .int .u8 0, .int .u8 0, .int .u8 0, .int .u8 0, .int .u8 0, .int .u8 0, .int .u8 0, .int .u8 0, .int .u8 0, .int .u8 0, .int .u8 0, .int .u8 0, .int .u8 0, .int .i64 0, .bool false])) [],
 qn (.a (storeF (tt 4) (tt 6) 21)) [pp 4, pp 6]]) (
 .seq (.seq (.reg [
 qo 7 (.r (loadF (tt 4) 21 .ag)) [pp 4],
 qo 8 (.c (callF (ff 18) [(tt 7)])) [pp 7],
 qo 9 (.p (unF .not (tt 8))) [pp 8]]) (
 .cond (tt 9) (.seq (.reg [
 qo 10 (.p (buildF [.int .i64 0, .int .i64 0, .int .i64 0, .int .u8 0, .int .u8 0, .int .u8 0, .int .u8 0, .int .u8 0, .int .u8 0, .int .u8 0, .int .u8 0, .int .u8 0, .int .u8 0, .int .u8 0, .int .u8 0, .int .u8 0, .int .u8 0, .int .u8 0, .int .u8 0, .int .i64 0, .bool false] .ag [])) [],
 qn (.a (storeF (tt 2) (tt 10) 21)) [pp 2, pp 10],
 qo 3 (.p (S.get (ii 2))) []]) (
 .ret)) (.skip))) (
 .seq (.reg [
 qo 11 (.r (loadF (tt 4) 21 .ag)) [pp 4],
 qn (.a (storeF (tt 2) (tt 11) 21)) [pp 2, pp 11],
 qo 3 (.p (S.get (ii 0))) []]) (
 .ret))))⟩
theorem c5_eq : fnOf Try.prog 5 = some c5 := by kernel_rfl
theorem put_zg (m s r : Int) : Go.Am.put zros 0 [.int .i64 m, .int .i64 s, .int .i64 r] = some (rcells m s r (List.replicate 16 0) 0 false) := rfl
section
variable {lf K : Nat} (hlf : 1000 < lf)
include hlf
theorem ufine {m s r c : Int} {g : Bool} {S : List Nat} (hS : S.length = 16) (hf : fine m s r S c) (H : Heap) (n : Nat) : U lf K (n + 1) 18 [ros m s r S c g] H = some (.v (.bool true), H.skip (K + 2)) := qp_ashlarref08_Fine (fun H => by
  obtain ⟨v, H', e, ⟨z, rfl, hz⟩, t⟩ := fine_ok H (m := m) (s := s) (r := r) (c := c) (g := g) hS lf 58 (by omega)
  exact ⟨_, H', e, by rw [hz.2 hf], t⟩)
theorem umay {m s r c : Int} {g : Bool} {S : List Nat} (hS : S.length = 16) (hf : fine m s r S c) (H : Heap) (n : Nat) : U lf K (n + 1) 20 [ros m s r S c g] H = some (.v (.bool true), H.skip (K + 2)) := qp_roster_May (fun H => by
  obtain ⟨v, H', e, ⟨z, rfl, hz⟩, t⟩ := pmay_ok H (m := m) (s := s) (r := r) (c := c) (g := g) hS lf 57 (by omega)
  exact ⟨_, H', e, by rw [hz.2 hf], t⟩)
theorem unew10 {m s r : Int} (hf : fine m s r (List.replicate 16 0) 0) (G : Heap) (n : Nat) : ret (U lf K (n + 2) 5 [geo m s r] G) fun v G' => v = .tuple [ros m s r (List.replicate 16 0) 0 false, .int .i64 0] ∧ Turns Z G G' := by
  have e : ∀ H : Heap, U lf K (n + 1) 18 _ H = _ := fun H => ufine hlf (g := false) (by simp) hf H n
  have hz := put_zg m s r
  have hw := r_width (S := List.replicate 16 0) (by simp) m s r 0 false
  have hp : Go.Am.put zros 0 (rcells m s r (List.replicate 16 0) 0 false) = some (rcells m s r (List.replicate 16 0) 0 false) := put_r (by simp)
  have hc : cut (rcells m s r (List.replicate 16 0) 0 false) 0 21 = some (rcells m s r (List.replicate 16 0) 0 false) := by
    rw [cut_thin (r_thin _ _ _ _ _ _) (by rw [r_len (by simp)]; exact Nat.le_refl _)]
    rw [List.drop_zero, List.take_of_length_le (by rw [r_len (by simp)]; exact Nat.le_refl _)]
  have hg : cut [V.int .i64 m, V.int .i64 s, V.int .i64 r] 0 3 = some [V.int .i64 m, V.int .i64 s, V.int .i64 r] := rfl
  unfold zros at hz hp
  unfold ros at e ⊢
  unfold geo
  refine ret_callU rfl rfl c5_eq ?_
  simp (maxDischargeDepth := 12) only [c5, e, hz, hw, hp, hc, hg, hv, ldO_one, stO_one, sy, tup, ↓reduceIte, Nat.reduceEqDiff, Nat.reduceAdd, Nat.reduceSub, Nat.reduceMul, Nat.reduceDiv, Nat.reduceMod, Nat.reduceLeDiff, Int.reduceBEq, reduceCtorEq]
  refine ⟨trivial, .inr trivial, _, rfl, rfl, ?_⟩
  repeat (first | exact Turns.refl _ _ | apply Turns.skip | apply Turns.addm | apply Turns.setb | apply Turns.setl | apply Turns.setr | refine Turns.setn ?_ _ (by omega) _ | refine Turns.trans ?_ (tF _))
theorem uhnew {G : Heap} {b : Bk} {B : disk.Bn} (hb : G.get b = some (bx false B)) (hf : Fit B) (bo : G.Old b) {id ev m s r c : Int} {g : Bool} {S : List Nat} (hS : S.length = 16) (hid0 : id ≠ 0) (hev : ev ≤ 2305843009213693952) (hfn : fine m s r S c) (hm : (B.l.length : Int) = m + 1)
    (hsec : ∀ d, 0 ≤ d ∧ d < m → s + 2 ≤ B.sectors d) (n : Nat) : ret (U lf K (n + 3) 6 [.ptr (some ⟨b, 0⟩), .int .u64 id, .int .u64 ev, ros m s r S c g] G) fun v G' => ∃ h, v = .tuple [.ptr (some ⟨h, 0⟩), .int .i64 0] ∧ HB G' h b id ev m s r S c g B ∧ ¬ G.Old h ∧ Turns Z G G' := by
  have e1 : ∀ H : Heap, H.get b = some (bx false B) → U lf K (n + 2) 19 [.ptr (some ⟨b, 0⟩)] H = _ := fun H h => qDevices h hf
  have e2 : ∀ (H : Heap) (d : Int), H.get b = some (bx false B) → U lf K (n + 2) 21 [.ptr (some ⟨b, 0⟩), .int .i64 d] H = _ := fun H d h => qSectors h hf d
  have e3 : ∀ H : Heap, U lf K (n + 2) 20 _ H = _ := fun H => umay hlf (g := g) hS hfn H (n + 1)
  rw [hm] at e1
  have hw := r_width hS m s r c g
  have hw24 := h_width hS b id ev m s r c g
  have pf := put_h (b := b) (id := id) (ev := ev) (m := m) (s := s) (r := r) (c := c) (g := g) hS
  have lc0 : cut (rcells m s r S c g) 0 1 = some [.int .i64 m] := rfl
  have lc1 : cut (rcells m s r S c g) 1 1 = some [.int .i64 s] := rfl
  have hc : cut (rcells m s r S c g) 0 21 = some (rcells m s r S c g) := by
    rw [cut_thin (r_thin _ _ _ _ _ _) (by rw [r_len hS]; exact Nat.le_refl _)]
    rw [List.drop_zero, List.take_of_length_le (by rw [r_len hS]; exact Nat.le_refl _)]
  obtain ⟨bm, bs, br⟩ := may_t hfn.1
  have b0 : (m + 1 == 0) = false := by simp; omega
  have b1 : (id == 0) = false := by simp [hid0]
  have b2 : ¬ (2305843009213693952 < ev) := by omega
  have wm : IntKind.i64.wrap (m + 1) = m + 1 := wrap_i64 (by omega)
  have ws : IntKind.i64.wrap (2 + s) = 2 + s := wrap_i64 (by omega)
  have hloop : ∀ (t : T) (G1 : Heap), t.getP (Tr.path 0) = some (.ptr (some ⟨b, 0⟩)) → t.getP (Tr.path 1) = some (.int .u64 id) → t.getP (Tr.path 2) = some (.int .u64 ev) → t.getP (Tr.path 7) = some (.ptr (some ⟨.run G.next, 0⟩)) → t.getP (Tr.path 36) = some (.int .i64 m) → t.getP (Tr.path 37) = some (.int .i64 0) → G1.get (.run G.next) = some (.rows false 21 [rcells m s r S c g]) → G.next < G1.next → Turns Z G G1 →
      wp (loopF (runC (U lf K (n + 2)) lf c6_l0) lf ⟨t, G1, []⟩) fun x s' => x = .ex 0 ∧ s'.d = [] ∧ s'.t.getP (Tr.path 0) = some (.ptr (some ⟨b, 0⟩)) ∧ s'.t.getP (Tr.path 1) = some (.int .u64 id) ∧ s'.t.getP (Tr.path 2) = some (.int .u64 ev) ∧ s'.t.getP (Tr.path 7) = some (.ptr (some ⟨.run G.next, 0⟩)) ∧ s'.H.get (.run G.next) = some (.rows false 21 [rcells m s r S c g]) ∧ Turns Z G s'.H := by
    intro t G1 q0 q1 q2 q7 q36 q37 hg hn ht
    refine wp_loopF (fun j s' => ∃ i : Nat, (j : Int) = m - i ∧ (i : Int) ≤ m ∧ s'.d = [] ∧ s'.t.getP (Tr.path 0) = some (.ptr (some ⟨b, 0⟩)) ∧ s'.t.getP (Tr.path 1) = some (.int .u64 id) ∧ s'.t.getP (Tr.path 2) = some (.int .u64 ev) ∧ s'.t.getP (Tr.path 7) = some (.ptr (some ⟨.run G.next, 0⟩)) ∧ s'.t.getP (Tr.path 36) = some (.int .i64 m) ∧ s'.t.getP (Tr.path 37) = some (.int .i64 (i : Int)) ∧ s'.H.get (.run G.next) = some (.rows false 21 [rcells m s r S c g]) ∧ G.next < s'.H.next ∧ Turns Z G s'.H)
      ?_ lf m.toNat _ ⟨0, by omega, by omega, rfl, q0, q1, q2, q7, q36, q37, hg, hn, ht⟩ (by omega)
    rintro j ⟨t, G2, dd⟩ ⟨i, hj, hi, hd, q0, q1, q2, q7, q36, q37, hg, hn, ht⟩
    dsimp only at hd q0 q1 q2 q7 q36 q37 hg hn ht
    subst hd
    have hB : G2.get b = some (bx false B) := (ht.same b bo (fun h => h)).trans hb
    by_cases hlt : (i : Int) < m
    · have w1 : IntKind.i64.wrap ((i : Int) + 1) = ((i + 1 : Nat) : Int) := by rw [wrap_i64 (by omega)]; omega
      have hs2 := hsec (i : Int) ⟨by omega, hlt⟩
      have b3 : ¬ (B.sectors (i : Int) < 2 + s) := by omega
      obtain ⟨Q, hQ⟩ : ∃ Q : List (Option V × Option V), Q = [(loadF (.t (Tr.path 44)) 1 .sc (Tr.setP (Tr.path 44) (.ptr (some ⟨.run G.next, 1⟩)) .e) G2, some (.int .i64 s)), (loadF (.t (Tr.path 44)) 1 .sc (Tr.setP (Tr.path 44) (.ptr (some ⟨.run G.next, 1⟩)) .e) (G2.skip (K + 2)), some (.int .i64 s))] := ⟨_, rfl⟩
      have hQ' : ∀ x ∈ Q, x.1 = x.2 := by
        rw [hQ]
        intro x hx
        simp only [List.mem_cons, List.not_mem_nil, or_false] at hx
        rcases hx with rfl | rfl <;> simp (maxDischargeDepth := 12) only [hg, lc1, hv, ldO_one, stO_one, sy, tup, ↓reduceIte, Nat.reduceEqDiff, Nat.reduceAdd, Nat.reduceSub, Nat.reduceMul, Nat.reduceDiv, Nat.reduceMod, Nat.reduceLeDiff, Int.reduceBEq, reduceCtorEq]
      simp (maxDischargeDepth := 12) only [c6_l0, q0, q1, q2, q7, q36, q37, hlt, e2, hB, hg, lc1, ws, b3, hv, ldO_one, stO_one, sy, tup, ↓reduceIte, Nat.reduceEqDiff, Nat.reduceAdd, Nat.reduceSub, Nat.reduceMul, Nat.reduceDiv, Nat.reduceMod, Nat.reduceLeDiff, Int.reduceBEq, reduceCtorEq]
      rw [endD_q (q := Q) (by kernel_rfl) (by rw [hQ]; kernel_rfl)]
      simp (maxDischargeDepth := 12) only [q0, q1, q2, q7, q36, q37, w1, hv, ldO_one, stO_one, sy, tup, ↓reduceIte, Nat.reduceEqDiff, Nat.reduceAdd, Nat.reduceSub, Nat.reduceMul, Nat.reduceDiv, Nat.reduceMod, Nat.reduceLeDiff, Int.reduceBEq, reduceCtorEq]
      refine ⟨j - 1, by omega, i + 1, by omega, by omega, trivial, trivial, trivial, trivial, trivial, trivial, by simp, hg, ?_, (ht.skip _).owe hQ'⟩
      omega
    · simp (maxDischargeDepth := 12) only [c6_l0, q0, q1, q2, q7, q36, q37, hlt, hv, ldO_one, stO_one, sy, tup, ↓reduceIte, Nat.reduceEqDiff, Nat.reduceAdd, Nat.reduceSub, Nat.reduceMul, Nat.reduceDiv, Nat.reduceMod, Nat.reduceLeDiff, Int.reduceBEq, reduceCtorEq]
      exact ⟨trivial, trivial, trivial, trivial, trivial, trivial, hg, ht⟩
  refine ret_callU rfl rfl c6_eq ?_
  unfold ros at e3 ⊢
  simp (maxDischargeDepth := 12) only [c6, e1, e3, hb, bo.ne, b0, b1, b2, wm, hw, lc0, hc, beq_self_eq_true, hv, ldO_one, stO_one, sy, tup, ↓reduceIte, Nat.reduceEqDiff, Nat.reduceAdd, Nat.reduceSub, Nat.reduceMul, Nat.reduceDiv, Nat.reduceMod, Nat.reduceLeDiff, Int.reduceBEq, reduceCtorEq]
  obtain ⟨Q, hQ⟩ : ∃ Q : List (Option V × Option V), Q = [(loadF (.t (Tr.path 29)) 1 .sc (Tr.setP (Tr.path 29) (.ptr (some ⟨.run G.next, 0⟩)) .e) (((G.add (.rows false 21 [rcells m s r S c g])).skip (K + 2)).skip (K + 2)), some (.int .i64 m)), (loadF (.t (Tr.path 29)) 1 .sc (Tr.setP (Tr.path 29) (.ptr (some ⟨.run G.next, 0⟩)) .e) ((((G.add (.rows false 21 [rcells m s r S c g])).skip (K + 2)).skip (K + 2)).skip (K + 2)), some (.int .i64 m))] := ⟨_, rfl⟩
  rw [endD_q (q := Q) (by kernel_rfl) (by rw [hQ]; kernel_rfl)]
  have hQ' : ∀ x ∈ Q, x.1 = x.2 := by
    rw [hQ]
    intro x hx
    simp only [List.mem_cons, List.not_mem_nil, or_false] at hx
    rcases hx with rfl | rfl <;> simp (maxDischargeDepth := 12) only [lc0, hv, ldO_one, stO_one, sy, tup, ↓reduceIte, Nat.reduceEqDiff, Nat.reduceAdd, Nat.reduceSub, Nat.reduceMul, Nat.reduceDiv, Nat.reduceMod, Nat.reduceLeDiff, Int.reduceBEq, reduceCtorEq]
  simp (maxDischargeDepth := 12) only [lc0, hv, ldO_one, stO_one, sy, tup, ↓reduceIte, Nat.reduceEqDiff, Nat.reduceAdd, Nat.reduceSub, Nat.reduceMul, Nat.reduceDiv, Nat.reduceMod, Nat.reduceLeDiff, Int.reduceBEq, reduceCtorEq]
  refine wp_ctx (F := fun r => seqC _ _ _ (blockC _ r)) (hloop _ _ ?_ ?_ ?_ ?_ ?_ ?_ ?_ ?_ ?_) ?_
  · simp only [sy, tup, ↓reduceIte, Nat.reduceEqDiff, Nat.reduceAdd, Nat.reduceSub, Nat.reduceMul, Nat.reduceDiv, Nat.reduceMod, Nat.reduceLeDiff, Int.reduceBEq, reduceCtorEq]
  · simp only [sy, tup, ↓reduceIte, Nat.reduceEqDiff, Nat.reduceAdd, Nat.reduceSub, Nat.reduceMul, Nat.reduceDiv, Nat.reduceMod, Nat.reduceLeDiff, Int.reduceBEq, reduceCtorEq]
  · simp only [sy, tup, ↓reduceIte, Nat.reduceEqDiff, Nat.reduceAdd, Nat.reduceSub, Nat.reduceMul, Nat.reduceDiv, Nat.reduceMod, Nat.reduceLeDiff, Int.reduceBEq, reduceCtorEq]
  · simp only [sy, tup, ↓reduceIte, Nat.reduceEqDiff, Nat.reduceAdd, Nat.reduceSub, Nat.reduceMul, Nat.reduceDiv, Nat.reduceMod, Nat.reduceLeDiff, Int.reduceBEq, reduceCtorEq]
  · simp only [sy, tup, ↓reduceIte, Nat.reduceEqDiff, Nat.reduceAdd, Nat.reduceSub, Nat.reduceMul, Nat.reduceDiv, Nat.reduceMod, Nat.reduceLeDiff, Int.reduceBEq, reduceCtorEq]
  · simp only [sy, tup, ↓reduceIte, Nat.reduceEqDiff, Nat.reduceAdd, Nat.reduceSub, Nat.reduceMul, Nat.reduceDiv, Nat.reduceMod, Nat.reduceLeDiff, Int.reduceBEq, reduceCtorEq]
  · simp (maxDischargeDepth := 12) only [hv, ldO_one, stO_one, sy, tup, ↓reduceIte, Nat.reduceEqDiff, Nat.reduceAdd, Nat.reduceSub, Nat.reduceMul, Nat.reduceDiv, Nat.reduceMod, Nat.reduceLeDiff, Int.reduceBEq, reduceCtorEq]
  · show G.next < G.next + 1 + (K + 2) + (K + 2) + (K + 2); omega
  · refine Turns.owe ?_ hQ'
    repeat (first | exact Turns.refl _ _ | apply Turns.skip | apply Turns.addm | apply Turns.setb | apply Turns.setl | apply Turns.setr | refine Turns.setn ?_ _ (by omega) _ | refine Turns.trans ?_ (tF _))
  rintro x ⟨t, G2, d⟩ ⟨rfl, hd, q0, q1, q2, q7, hg, ht⟩
  dsimp only at hd q0 q1 q2 q7 hg ht
  subst hd
  simp (maxDischargeDepth := 12) only [q0, q1, q2, q7, hg, hc, hw, pf, hw24, hv, ldO_one, stO_one, sy, tup, ↓reduceIte, Nat.reduceEqDiff, Nat.reduceAdd, Nat.reduceSub, Nat.reduceMul, Nat.reduceDiv, Nat.reduceMod, Nat.reduceLeDiff, Int.reduceBEq, reduceCtorEq]
  refine ⟨trivial, .inr trivial, _, rfl, .run G2.next, rfl, ⟨⟨by rw [Heap.get_add, if_pos rfl], hS, by show _ < _; simp⟩, ?_, (bo.mono ht.next).mono (by simp), hf⟩, Heap.not_old ht.next, ht.addm _⟩
  rw [Heap.get_add, if_neg (fun e => by have := (bo.mono ht.next).ne G2.next (Nat.le_refl _); rw [this] at e; exact e)]
  exact (ht.same b bo (fun h => h)).trans hb
theorem uhroster {G : Heap} {h b : Bk} {id ev m s r : Int} {S : List Nat} {c : Int} {g : Bool} {B : disk.Bn} (hh : HB G h b id ev m s r S c g B) (n : Nat) : ret (U lf K (n + 2) 9 [.ptr (some ⟨h, 0⟩)] G) fun v G' => v = ros m s r S c g ∧ Turns Z G G' := by
  have hS := hh.hull.len
  have own := hh.hull.own
  have ho := hh.hull.old
  have lr : cut (hcells b id ev m s r S c g) 3 21 = some (rcells m s r S c g) := by
    have := hl_r hh.hull
    rw [ld_get, own, ldO_one (by omega)] at this
    exact this
  have hw := r_width hS m s r c g
  have hp := put_r (m := m) (s := s) (r := r) (c := c) (g := g) hS
  have hc : cut (rcells m s r S c g) 0 21 = some (rcells m s r S c g) := by
    rw [cut_thin (r_thin _ _ _ _ _ _) (by rw [r_len hS]; exact Nat.le_refl _)]
    rw [List.drop_zero, List.take_of_length_le (by rw [r_len hS]; exact Nat.le_refl _)]
  have e1 := unone hlf (hh.turns (Turns.add Z G (.rows false 21 [zros]))) n (K := K)
  unfold zros at hp e1
  refine ret_callU rfl rfl c9_eq ?_
  unfold ros
  simp (maxDischargeDepth := 12) only [c9, e1, own, ho.ne, lr, hw, hp, hc, hv, ldO_one, stO_one, sy, tup, ↓reduceIte, Nat.reduceEqDiff, Nat.reduceAdd, Nat.reduceSub, Nat.reduceMul, Nat.reduceDiv, Nat.reduceMod, Nat.reduceLeDiff, Int.reduceBEq, reduceCtorEq]
  refine ⟨trivial, .inr trivial, _, rfl, rfl, ?_⟩
  repeat (first | exact Turns.refl _ _ | apply Turns.skip | apply Turns.addm | apply Turns.setb | apply Turns.setl | apply Turns.setr | refine Turns.setn ?_ _ (by omega) _ | refine Turns.trans ?_ (tF _))
theorem uhevent {G : Heap} {h b : Bk} {id ev m s r : Int} {S : List Nat} {c : Int} {g : Bool} {B : disk.Bn} (hh : HB G h b id ev m s r S c g B) (n : Nat) : U lf K (n + 2) 14 [.ptr (some ⟨h, 0⟩)] G = some (.v (.int .u64 ev), G) := by
  have l := hl_ev hh.hull
  have e1 := unone hlf hh n (K := K)
  obtain ⟨v, H', e, rfl, rfl⟩ : ret (U lf K (n + 2) 14 [.ptr (some ⟨h, 0⟩)] G) fun v H' => v = .int .u64 ev ∧ H' = G := by
    refine ret_callU rfl rfl c14_eq ?_
    simp only [c14, e1, l, sy, tup, ↓reduceIte, Nat.reduceEqDiff, Nat.reduceAdd, Nat.reduceSub, Nat.reduceMul, Nat.reduceDiv, Nat.reduceMod, Nat.reduceLeDiff, Int.reduceBEq, reduceCtorEq]
    simp
  exact e
end
end Go.Proofs.Ytabebpemfinejaa.draft

set_option linter.unusedVariables false
set_option linter.unusedSectionVars false
set_option linter.unusedSimpArgs false
set_option maxRecDepth 10000
namespace Go.Proofs.Ytabebpemfinejaa.draft
open Go.Am
open disk (Fit Bok Dev Bn Good)
theorem Calm.fail {m k : Nat} {B : Bn} (h : Calm m k B) {i : Nat} (hi : i < m) : B.tc (i : Int) = 0 ∧ Calm m (k + 1) (B.fail (i : Int)) ∧ ∀ j : Nat, j < m + 1 → (B.fail (i : Int)).dev (j : Int) = if j = i then (B.dev (i : Int)).fail else B.dev (j : Int) := by
  have htc := h.tc hi
  have hlen := h.len
  have e : B.fail (i : Int) = ⟨B.l.set i (B.dev (i : Int)).fail, B.st, B.ar, B.dk⟩ := by
    unfold Bn.fail
    rw [if_pos htc]
    rfl
  have dv : ∀ j : Nat, j < m + 1 → (B.fail (i : Int)).dev (j : Int) = if j = i then (B.dev (i : Int)).fail else B.dev (j : Int) := fun j hj => by
    rw [e]; exact dev_set (by omega) _ _ _ _
  refine ⟨htc, ⟨h.ok.fail _, by rw [e]; exact h.ar, by rw [e]; exact h.dk, by rw [e]; simpa using hlen, h.le, fun j hj => ?_, fun j hj => ?_⟩, dv⟩
  · rw [dv j (by omega)]
    by_cases e : j = i
    · rw [if_pos e]; exact h.sz i hi
    · rw [if_neg e]; exact h.sz j hj
  · rw [dv j (by omega)]
    by_cases e : j = i
    · rw [if_pos e]; rfl
    · rw [if_neg e]; exact h.lo j hj
def aBit (a d : Nat) : Bool := decide ((a / 2 ^ d) &&& 1 = 1)
def failL (B : Bn) (a : Nat) : Nat → Bn
  | 0 => B
  | i + 1 => if aBit a i = true then (failL B a i).fail (i : Int) else failL B a i
structure FailedTo (m k : Nat) (B : Bn) (a i : Nat) : Prop where
  calm : Calm m (k + i) (failL B a i)
  S : ∀ j : Nat, j < m + 1 → ((failL B a i).dev (j : Int)).S = (B.dev (j : Int)).S
  dd : ∀ j, j < m → dead (failL B a i) j = (dead B j || (decide (j < i) && aBit a j))
theorem failed {m k : Nat} {B : Bn} (h : Calm m k B) (a : Nat) : ∀ i, i ≤ m → FailedTo m k B a i
  | 0, _ => ⟨h, fun _ _ => rfl, fun j _ => by simp [failL]⟩
  | i + 1, hi => by
    have ih := failed h a i (by omega)
    by_cases hb : aBit a i = true
    · have e : failL B a (i + 1) = (failL B a i).fail (i : Int) := if_pos hb
      obtain ⟨_, hc, dv⟩ := ih.calm.fail (i := i) (by omega)
      refine ⟨by rw [e]; exact hc, fun j hj => ?_, fun j hj => ?_⟩
      · rw [e, dv j hj]
        by_cases e' : j = i
        · rw [if_pos e', e']; exact ih.S i (by omega)
        · rw [if_neg e']; exact ih.S j hj
      · unfold dead
        rw [e, dv j (by omega)]
        by_cases e' : j = i
        · subst e'
          rw [if_pos rfl, hb]
          simp [Dev.fail]
        · rw [if_neg e']
          have := ih.dd j hj
          unfold dead at this
          rw [this]
          have e2 : decide (j < i + 1) = decide (j < i) := by rw [decide_eq_decide]; omega
          rw [e2]
    · have e : failL B a (i + 1) = failL B a i := if_neg hb
      refine ⟨by rw [e]; have := ih.calm; exact ⟨this.ok.mono, this.ar, this.dk, this.len, this.le, this.sz, this.lo⟩, fun j hj => by rw [e]; exact ih.S j hj, fun j hj => ?_⟩
      rw [e, ih.dd j hj]
      by_cases e' : j = i
      · subst e'
        have : aBit a j = false := by simpa using hb
        rw [this]; simp
      · have e2 : decide (j < i + 1) = decide (j < i) := by rw [decide_eq_decide]; omega
        rw [e2]
section
variable {M k E : Nat} {B : Bn} {S : List Nat} (hC : Calm M k B) (h6 : ∀ j : Nat, j < M → (B.dev (j : Int)).S.length = 6) (h50 : (B.dev (M : Int)).S.length = 50) (hM : 3 ≤ M ∧ M ≤ 6)
  (hE : 1 ≤ E ∧ E ≤ 2305843009213693952) (hf : fine (M : Int) 4 40 S 0) (hS : S.length = 16)
  (hX : ∀ j : Nat, j < M → dead B j = false → hasX B j (E - 1) (supBlk E 9 j M 4 40 S 0 false))
include hC h6 h50 hM hE hf hS hX
theorem supX {j : Nat} (hj : j < M) : let X := supBlk E 9 j M 4 40 S 0 false
    getE X = 0 ∧ sealN X = E ∧ fld X 0 8 = 9 ∧ fld X 13 1 = j ∧ fld X 8 1 = M ∧ ((fld X 9 2 : Nat) : Int) = 4 ∧ ((fld X 11 2 : Nat) : Int) = 40 ∧ ((fld X 18 2 : Nat) : Int) = 0 ∧ gSt X = S ∧ (((fld X 20 1 : Nat) : Int) == 1) = false :=
  sup_back (by unfold evt; simp only [Bool.and_eq_true, decide_eq_true_eq]; omega) (by decide) hC.le ⟨by decide, by omega, by omega, hf⟩ hS false rfl
theorem gC_dead {j : Nat} (hj : j < M) (hd : dead B j = true) : gC B (M + 1) (j : Int) = none := by
  have r0 := hC.rc (j := 0) hj (by decide)
  rw [hd] at r0
  unfold gC
  rw [if_neg (by omega), if_pos (.inl (by rw [show (0 : Int) = ((0 : Nat) : Int) from rfl, r0]; decide))]
theorem gC_live {j : Nat} (hj : j < M) (hd : dead B j = false) : gC B (M + 1) (j : Int) = some (supBlk E 9 j M 4 40 S 0 false) := by
  have r0 := hC.rc (j := 0) hj (by decide)
  have r1 := hC.rc (j := 1) hj (by decide)
  rw [hd, if_neg (by decide)] at r0 r1
  have d0 := hC.read (j := 0) hj (by decide) hd
  have d1 := hC.read (j := 1) hj (by decide) hd
  obtain ⟨x1, x2, x3, x4, x5, x6, x7, x8, x9, x10⟩ := supX hC h6 h50 hM hE hf hS hX hj
  have hnew := (hX j hj hd).new x1 (by rw [x2]; omega)
  unfold gC
  rw [if_neg (by omega), if_neg (by
    rintro (h | h)
    · exact h r0
    · exact h r1)]
  change (match newC (B.read (j : Int) ((0 : Nat) : Int)) (B.read (j : Int) ((1 : Nat) : Int)) with | none => none | some C => _) = _
  rw [d0, d1, hnew]
  dsimp only
  rw [if_pos]
  refine ⟨by rw [x2]; omega, ?_⟩
  have hlen := hC.len
  have sec : ∀ d : Nat, d < M + 1 → B.sectors (d : Int) = ((B.dev (d : Int)).S.length : Int) := fun d hd => by
    unfold Bn.sectors Bn.tc disk.tcode
    rw [if_pos (by rw [if_pos (by omega)])]
  unfold fitsC fits
  rw [x5, x6, x7]
  refine ⟨by omega, by rw [sec M (by omega), h50]; decide, fun d hd => ?_⟩
  obtain ⟨d', rfl⟩ : ∃ d' : Nat, d = (d' : Int) := ⟨d.toNat, by omega⟩
  rw [sec d' (by omega), h6 d' (by omega)]
  decide
theorem best_none : ∀ d, d ≤ M → (∀ j, j < d → dead B j = true) → bestC B (M + 1) d = none
  | 0, _, _ => rfl
  | d + 1, h, hd => by
    unfold bestC
    rw [gC_dead hC h6 h50 hM hE hf hS hX (by omega) (hd d (by omega))]
    exact best_none d (by omega) (fun j hj => hd j (by omega))
theorem best_some : ∀ d, d ≤ M → (∃ j, j < d ∧ dead B j = false) → ∃ i, i < d ∧ dead B i = false ∧ bestC B (M + 1) d = some (supBlk E 9 i M 4 40 S 0 false)
  | 0, _, ⟨j, hj, _⟩ => absurd hj (by omega)
  | d + 1, h, ⟨j, hj, hdj⟩ => by
    by_cases hp : ∃ j, j < d ∧ dead B j = false
    · obtain ⟨i, h1, h2, h3⟩ := best_some d (by omega) hp
      refine ⟨i, by omega, h2, ?_⟩
      unfold bestC
      cases hdd : dead B d with
      | true => rw [gC_dead hC h6 h50 hM hE hf hS hX (by omega) hdd]; exact h3
      | false =>
        rw [gC_live hC h6 h50 hM hE hf hS hX (by omega) hdd]
        dsimp only
        rw [h3]
        rw [if_pos]
        unfold evOf
        dsimp only
        rw [(supX hC h6 h50 hM hE hf hS hX (j := d) (by omega)).2.1, (supX hC h6 h50 hM hE hf hS hX (j := i) (by omega)).2.1]
        exact Nat.le_refl _
    · have hjd : j = d := Classical.byContradiction fun e => hp ⟨j, by omega, hdj⟩
      subst hjd
      refine ⟨j, by omega, hdj, ?_⟩
      unfold bestC
      rw [gC_live hC h6 h50 hM hE hf hS hX (by omega) hdj, best_none hC h6 h50 hM hE hf hS hX j (by omega) (fun i hi => by
        cases hc : dead B i with
        | true => rfl
        | false => exact absurd ⟨i, hi, hc⟩ hp)]
      dsimp only
      rw [if_neg]
      rw [(supX hC h6 h50 hM hE hf hS hX (j := j) (by omega)).2.1]
      show ¬ (E ≤ 0)
      omega
theorem keep_iff {i j : Nat} (hi : i < M) (hj : j < M) : keepM B (M + 1) (supBlk E 9 i M 4 40 S 0 false) j ↔ dead B j = false := by
  obtain ⟨x1, x2, x3, x4, x5, x6, x7, x8, x9, x10⟩ := supX hC h6 h50 hM hE hf hS hX hi
  obtain ⟨y1, y2, y3, y4, y5, y6, y7, y8, y9, y10⟩ := supX hC h6 h50 hM hE hf hS hX hj
  constructor
  · rintro ⟨C, hc, _⟩
    cases hd : dead B j with
    | false => rfl
    | true => rw [gC_dead hC h6 h50 hM hE hf hS hX hj hd] at hc; cases hc
  · intro hd
    exact ⟨_, gC_live hC h6 h50 hM hE hf hS hX hj hd, by rw [x3, y3], ⟨by rw [x5, y5], by omega, by omega⟩, y4⟩
theorem lost_at {i : Nat} (hi : i < M) (h01 : ∀ j, S.getD j 0 ≠ 2) : ∀ n, n ≤ M → (lostS B (M + 1) (supBlk E 9 i M 4 40 S 0 false) n).1.length = 16 ∧ (lostS B (M + 1) (supBlk E 9 i M 4 40 S 0 false) n).2 = 0 ∧ ∀ j, (lostS B (M + 1) (supBlk E 9 i M 4 40 S 0 false) n).1.getD j 0 = if j < n ∧ dead B j = true then 1 else S.getD j 0
  | 0, _ => by
    obtain ⟨x1, x2, x3, x4, x5, x6, x7, x8, x9, x10⟩ := supX hC h6 h50 hM hE hf hS hX hi
    refine ⟨lostS_len _ _ _ 0, ?_, fun j => ?_⟩
    · show fld _ 18 2 = 0
      omega
    · show (gSt _).getD j 0 = _
      rw [x9, if_neg (by omega)]
  | n + 1, hn => by
    obtain ⟨ih1, ih2, ih3⟩ := lost_at hi h01 n (by omega)
    refine ⟨lostS_len _ _ _ _, ?_, fun j => ?_⟩
    · unfold lostS
      split
      · exact ih2
      · dsimp only
        rw [ih2]
        split <;> rfl
    · unfold lostS
      split
      · rename_i hk
        have hd := (keep_iff hC h6 h50 hM hE hf hS hX hi (by omega)).1 hk
        rw [ih3 j]
        by_cases e : j = n
        · subst e
          rw [if_neg (by omega), if_neg (by rw [hd]; simp)]
        · by_cases h : j < n ∧ dead B j = true
          · rw [if_pos h, if_pos ⟨by omega, h.2⟩]
          · rw [if_neg h, if_neg (fun h' => h ⟨by omega, h'.2⟩)]
      · rename_i hk
        have hd : dead B n = true := by
          cases hc : dead B n with
          | true => rfl
          | false => exact absurd ((keep_iff hC h6 h50 hM hE hf hS hX hi (by omega)).2 hc) hk
        dsimp only
        rw [getD_set (by omega), ih3 j]
        by_cases e : j = n
        · subst e
          rw [if_pos rfl, if_pos ⟨by omega, hd⟩]
        · rw [if_neg e]
          by_cases h : j < n ∧ dead B j = true
          · rw [if_pos h, if_pos ⟨by omega, h.2⟩]
          · rw [if_neg h, if_neg (fun h' => h ⟨by omega, h'.2⟩)]
theorem look_none (hd : ∀ j, j < M → dead B j = true) : lookV B = .tuple [.agg zf, .int .i64 7] := by
  unfold lookV
  have := hC.len
  rw [show B.l.length = M + 1 from this, show M + 1 - 1 = M from rfl, best_none hC h6 h50 hM hE hf hS hX M (Nat.le_refl _) hd]
theorem look_found (h01 : ∀ j, S.getD j 0 ≠ 2) (hd : ∃ j, j < M ∧ dead B j = false) {T : List Nat} (hT : T.length = 16) (hTg : ∀ j, j < 16 → T.getD j 0 = if j < M ∧ dead B j = true then 1 else S.getD j 0) : lookV B = .tuple [fnd (E : Int) 9 (M : Int) 4 40 T 0 false, .int .i64 0] := by
  have hlen := hC.len
  obtain ⟨i, hi, hdi, hb⟩ := best_some hC h6 h50 hM hE hf hS hX M (Nat.le_refl _) hd
  obtain ⟨x1, x2, x3, x4, x5, x6, x7, x8, x9, x10⟩ := supX hC h6 h50 hM hE hf hS hX hi
  obtain ⟨l1, l2, l3⟩ := lost_at hC h6 h50 hM hE hf hS hX hi h01 M (Nat.le_refl _)
  have eT : (lostS B (M + 1) (supBlk E 9 i M 4 40 S 0 false) M).1 = T := by
    apply List.ext_getElem (by omega)
    intro j h1 h2
    have := (l3 j).trans (hTg j (by omega)).symm
    simpa [List.getD, h1, h2] using this
  unfold lookV
  rw [show B.l.length = M + 1 from hlen, show M + 1 - 1 = M from rfl, hb]
  dsimp only
  unfold foundC
  rw [x2, x3, x5, x6, x7, x10, l2, eT]
  rfl
end
end Go.Proofs.Ytabebpemfinejaa.draft

set_option linter.unusedVariables false
set_option linter.unusedSectionVars false
set_option linter.unusedSimpArgs false
set_option maxRecDepth 10000
namespace Go.Proofs.Ytabebpemfinejaa.draft
open Go.Am
open disk (bx Fit A1 R1 Low Bn Bok)
noncomputable def c4_l0 : C := .seq (.seq (.reg [
 mv 11 6,
 mv 12 0,
 qo 13 (.p (arF .lss (tt 11) (tt 12))) [pp 11, pp 12]]) (
 .cond (tt 13) (.skip) (.exit 0))) (
 .seq (.block 1 (.reg [
 mv 16 5,
 qo 17 (.m (bsliceF 1 1 [.int .i64 0] [(0, 1, (ii 6))])) [],
 qo 18 (.a (appF 1 8 (tt 16) (tt 17))) [pp 16, pp 17],
 mv 5 18])) (
 .reg [
 mv 14 6,
 qo 15 (.p (arF .add (tt 14) (ii 1))) [pp 14],
 mv 6 15]))
noncomputable def c4 : CFn := ⟨[.tmp (pp 2), .tmp (pp 3), .tmp (pp 4)],
 .seq (.reg [
 qo 2 (.p (S.get (.c (.ptr none)))) [],
 qo 3 (.p (S.get (.c (.ptr none)))) [],
 qo 4 (.p (S.get (.c (.bool false)))) []]) (
 .seq (.reg [
 qo 5 (.p (S.get (.c (.slice none 0 0 0)))) []]) (
 .seq (.seq (.reg [
 qo 6 (.p (S.get (ii 0))) []]) (
 .block 0 (.loop c4_l0))) (
 .seq (.reg [
 mv 19 5,
 qo 20 (.m (bsliceF 1 1 [.int .i64 0] [(0, 1, (ii 50))])) [],
 qo 21 (.a (appF 1 8 (tt 19) (tt 20))) [pp 19, pp 20],
 mv 5 21]) (
 .seq (.reg [
 mv 23 5,
 qo 24 (.c (callF (ff 16) [(tt 23)])) [pp 23],
 mv 22 24,
 qo 25 (.p (extF (tt 22) 0)) [pp 22],
 qo 26 (.p (extF (tt 22) 1)) [pp 22],
 mv 7 25,
 mv 8 26]) (
 .seq (.reg [
 mv 28 5,
 qo 29 (.c (callF (ff 17) [(tt 28)])) [pp 28],
 mv 27 29,
 qo 30 (.p (extF (tt 27) 0)) [pp 27],
 qo 31 (.p (extF (tt 27) 1)) [pp 27],
 mv 9 30,
 mv 10 31]) (
 .seq (.reg [
 mv 32 7,
 mv 33 9,
 mv 34 8,
 qo 35 (.p (eqcF false false [.int .i64] (tt 34) (ii 0))) [pp 34],
 mv 36 35,
 mg 37 10 36 true,
 qg 38 (.p (eqcF false false [.int .i64] (tt 37) (ii 0))) 36 true [pp 37],
 qo 39 (.p (pickF (tt 36) (tt 38) (.c (.bool false)))) [pp 36, pp 38],
 mv 2 32,
 mv 3 33,
 mv 4 39]) (
 .ret)))))))⟩
theorem c4_eq : fnOf Try.prog 4 = some c4 := by kernel_rfl
noncomputable def c3_l0 : C := .seq (.seq (.reg [
 mv 75 19,
 mv 76 9,
 qo 77 (.p (arF .lss (tt 75) (tt 76))) [pp 75, pp 76]]) (
 .cond (tt 77) (.skip) (.exit 2))) (
 .seq (.block 3 (.seq (.reg [
 mv 80 3,
 mv 81 19,
 qo 82 (.p (convF .u64 (tt 81))) [pp 81],
 qo 83 (.p (arF .shr (tt 80) (tt 82))) [pp 80, pp 82],
 qo 84 (.p (arF .and (tt 83) (.c (.int .u16 1)))) [pp 83],
 qo 85 (.p (eqcF false false [.int .u16] (tt 84) (.c (.int .u16 1)))) [pp 84]]) (
 .cond (tt 85) (.seq (.reg [
 mv 86 10,
 mv 87 19,
 qo 88 (.c (callF (ff 7) [(tt 86), (tt 87)])) [pp 86, pp 87]]) (
 .reg [
 qo 90 (.r (loadF (tt 18) 21 .ag)) [pp 18],
 mv 91 19,
 qo 92 (.c (callF (ff 10) [(tt 90), (tt 91)])) [pp 90, pp 91],
 mv 89 92,
 qo 93 (.p (extF (tt 89) 0)) [pp 89],
 qo 94 (.p (extF (tt 89) 1)) [pp 89],
 qn (.a (storeF (tt 18) (tt 93) 21)) [pp 18, pp 93]])) (.skip)))) (
 .reg [
 mv 78 19,
 qo 79 (.p (arF .add (tt 78) (ii 1))) [pp 78],
 mv 19 79]))
noncomputable def c3_l1 : C := .seq (.seq (.reg [
 mv 56 17,
 mv 57 9,
 qo 58 (.p (arF .lss (tt 56) (tt 57))) [pp 56, pp 57]]) (
 .cond (tt 58) (.skip) (.exit 0))) (
 .seq (.block 1 (.seq (.reg [
 mv 61 2,
 mv 62 17,
 qo 63 (.p (convF .u64 (tt 62))) [pp 62],
 qo 64 (.p (arF .shr (tt 61) (tt 63))) [pp 61, pp 63],
 qo 65 (.p (arF .and (tt 64) (.c (.int .u16 1)))) [pp 64],
 qo 66 (.p (eqcF false false [.int .u16] (tt 65) (.c (.int .u16 1)))) [pp 65]]) (
 .cond (tt 66) (.reg [
 mv 67 10,
 mv 68 17,
 qo 69 (.c (callF (ff 7) [(tt 67), (tt 68)])) [pp 67, pp 68]]) (.skip)))) (
 .reg [
 mv 59 17,
 qo 60 (.p (arF .add (tt 59) (ii 1))) [pp 59],
 mv 17 60]))
noncomputable def c3 : CFn := ⟨[.tmp (pp 8)],
 .seq (.reg [
 qo 8 (.p (S.get (.c (.bool false)))) []]) (
 .seq (.reg [
 mv 22 0,
 qo 23 (.p (arF .rem (tt 22) (.c (.int .u8 4)))) [pp 22],
 qo 24 (.p (convF .i64 (tt 23))) [pp 23],
 qo 25 (.p (arF .add (ii 3) (tt 24))) [pp 24],
 mv 9 25]) (
 .seq (.reg [
 mv 27 9,
 qo 28 (.c (callF (ff 4) [(tt 27)])) [pp 27],
 mv 26 28,
 qo 29 (.p (extF (tt 26) 0)) [pp 26],
 qo 30 (.p (extF (tt 26) 1)) [pp 26],
 qo 31 (.p (extF (tt 26) 2)) [pp 26],
 mv 10 29,
 mv 11 30,
 mv 12 31]) (
 .seq (.reg [
 mv 33 9,
 qo 34 (.p (buildF [.int .i64 0, .int .i64 0, .int .i64 0] .ag [(0, 1, (tt 33)), (1, 1, (ii 4)), (2, 1, (ii 40))])) [pp 33],
 qo 35 (.c (callF (ff 5) [(tt 34)])) [pp 34],
 mv 32 35,
 qo 36 (.p (extF (tt 32) 0)) [pp 32],
 qo 37 (.p (extF (tt 32) 1)) [pp 32],
 qo 13 (.m (allocF 21 [.int .i64 0, .int .i64 0, .int .i64 0, .int .u8 0, .int .u8 0, .int .u8 0, .int .u8 0, .int .u8 0, .int .u8 0, .int .u8 0, .int .u8 0, .int .u8 0, .int .u8 0, .int .u8 0, .int .u8 0, .int .u8 0, .int .u8 0, .int .u8 0, .int .u8 0, .int .i64 0, .bool false])) [],
 qn (.a (storeF (tt 13) (tt 36) 21)) [pp 13, pp 36],
 mv 14 37]) (
 .seq (.reg [
 mv 39 10,
 mv 40 1,
 qo 41 (.p (convF .u64 (tt 40))) [pp 40],
 qo 42 (.r (loadF (tt 13) 21 .ag)) [pp 13],
 qo 43 (.c (callF (ff 6) [(tt 39), (.c (.int .u64 9)), (tt 41), (tt 42)])) [pp 39, pp 41, pp 42],
 mv 38 43,
 qo 44 (.p (extF (tt 38) 0)) [pp 38],
 qo 45 (.p (extF (tt 38) 1)) [pp 38],
 mv 15 44,
 mv 16 45]) (
 .seq (.seq (.reg [
 mv 46 12,
 qo 47 (.p (unF .not (tt 46))) [pp 46],
 mv 48 47,
 mg 49 14 48 false,
 qg 50 (.p (eqcF true false [.int .i64] (tt 49) (ii 0))) 48 false [pp 49],
 qo 51 (.p (pickF (tt 48) (.c (.bool true)) (tt 50))) [pp 48, pp 50],
 mv 52 51,
 mg 53 16 52 false,
 qg 54 (.p (eqcF true false [.int .i64] (tt 53) (ii 0))) 52 false [pp 53],
 qo 55 (.p (pickF (tt 52) (.c (.bool true)) (tt 54))) [pp 52, pp 54]]) (
 .cond (tt 55) (.seq (.reg [
 qo 8 (.p (S.get (.c (.bool false)))) []]) (
 .ret)) (.skip))) (
 .seq (.seq (.reg [
 qo 17 (.p (S.get (ii 0))) []]) (
 .block 0 (.loop c3_l1))) (
 .seq (.seq (.reg [
 mv 70 15,
 qo 71 (.c (callF (ff 8) [(tt 70)])) [pp 70],
 qo 72 (.p (eqcF true false [.int .i64] (tt 71) (ii 0))) [pp 71]]) (
 .cond (tt 72) (.seq (.reg [
 qo 8 (.p (S.get (.c (.bool false)))) []]) (
 .ret)) (.skip))) (
 .seq (.reg [
 mv 73 15,
 qo 74 (.c (callF (ff 9) [(tt 73)])) [pp 73],
 qo 18 (.m (allocF 21 [.int .i64 0, .int .i64 0, .int .i64 0, .int .u8 0, .int .u8 0, .int .u8 0, .int .u8 0, .int .u8 0, .int .u8 0, .int .u8 0, .int .u8 0, .int .u8 0, .int .u8 0, .int .u8 0, .int .u8 0, .int .u8 0, .int .u8 0, .int .u8 0, .int .u8 0, .int .i64 0, .bool false])) [],
 qn (.a (storeF (tt 18) (tt 74) 21)) [pp 18, pp 74]]) (
 .seq (.seq (.reg [
 qo 19 (.p (S.get (ii 0))) []]) (
 .block 2 (.loop c3_l0))) (
 .seq (.reg [
 mv 96 10,
 qo 97 (.c (callF (ff 11) [(tt 96)])) [pp 96],
 mv 95 97,
 qo 98 (.p (extF (tt 95) 0)) [pp 95],
 qo 99 (.p (extF (tt 95) 1)) [pp 95],
 qo 20 (.m (allocF 23 [.int .u64 0, .int .u64 0, .int .i64 0, .int .i64 0, .int .i64 0, .int .u8 0, .int .u8 0, .int .u8 0, .int .u8 0, .int .u8 0, .int .u8 0, .int .u8 0, .int .u8 0, .int .u8 0, .int .u8 0, .int .u8 0, .int .u8 0, .int .u8 0, .int .u8 0, .int .u8 0, .int .u8 0, .int .i64 0, .bool false])) [],
 qn (.a (storeF (tt 20) (tt 98) 23)) [pp 20, pp 98],
 mv 21 99]) (
 .seq (.seq (.reg [
 qo 100 (.r (loadF (tt 18) 21 .ag)) [pp 18],
 qo 101 (.c (callF (ff 12) [(tt 100)])) [pp 100],
 mv 102 9,
 qo 103 (.p (eqcF false false [.int .i64] (tt 101) (tt 102))) [pp 101, pp 102]]) (
 .cond (tt 103) (.seq (.reg [
 mv 104 21,
 qo 105 (.p (eqcF false false [.int .i64] (tt 104) (ii 7))) [pp 104],
 mv 106 105,
 qg 107 (.c (callF (ff 13) [])) 106 true [],
 qo 108 (.p (pickF (tt 106) (tt 107) (.c (.bool false)))) [pp 106, pp 107],
 mv 8 108]) (
 .ret)) (.skip))) (
 .seq (.regD [
 mv 109 21,
 qo 110 (.p (eqcF false false [.int .i64] (tt 109) (ii 0))) [pp 109],
 mv 111 110,
 qg 112 (.p (faddrF (tt 20) 0)) 111 true [pp 20],
 qg 113 (.r (loadF (tt 112) 1 .sc)) 111 true [pp 112],
 mg 114 15 111 true,
 qg 115 (.c (callF (ff 14) [(tt 114)])) 111 true [pp 114],
 qg 116 (.p (eqcF false false [.int .u64] (tt 113) (tt 115))) 111 true [pp 113, pp 115],
 qo 117 (.p (pickF (tt 111) (tt 116) (.c (.bool false)))) [pp 111, pp 116],
 mv 118 117,
 qg 119 (.p (faddrF (tt 20) 1)) 118 true [pp 20],
 qg 120 (.r (loadF (tt 119) 1 .sc)) 118 true [pp 119],
 qg 121 (.p (eqcF false false [.int .u64] (tt 120) (.c (.int .u64 9)))) 118 true [pp 120],
 qo 122 (.p (pickF (tt 118) (tt 121) (.c (.bool false)))) [pp 118, pp 121],
 mv 123 122,
 qg 124 (.p (faddrF (tt 20) 2)) 123 true [pp 20],
 qg 125 (.r (loadF (tt 124) 21 .ag)) 123 true [pp 124],
 qg 126 (.r (loadF (tt 18) 21 .ag)) 123 true [pp 18],
 qg 127 (.c (callF (ff 15) [(tt 125), (tt 126)])) 123 true [pp 125, pp 126],
 qo 128 (.p (pickF (tt 123) (tt 127) (.c (.bool false)))) [pp 123, pp 127],
 mv 129 128,
 qg 130 (.c (callF (ff 13) [])) 129 true [],
 qo 131 (.p (pickF (tt 129) (tt 130) (.c (.bool false)))) [pp 129, pp 130],
 mv 8 131] [0, 1, 3, 7, 15, 7, 39, 127, 255, 511, 1023, 2047, 4095, 8191, 16383, 32767, 65535, 32767, 262143, 524287, 1048575, 2097151, 4194303, 8388607]) (
 .ret)))))))))))))⟩
theorem c3_eq : fnOf Try.prog 3 = some c3 := by kernel_rfl
theorem okSizes_k {k : Nat} (hk : 1 ≤ k ∧ k ≤ 6) : disk.okSizes (sizes k) := by
  refine ⟨?_, ?_, ?_⟩
  · unfold sizes; simp
  · unfold sizes; simp; omega
  · intro x hx
    unfold sizes at hx
    simp at hx
    rcases hx with ⟨_, rfl⟩ | rfl <;> omega
section
variable {lf K : Nat} (hlf : 1000 < lf)
include hlf
theorem ubenches (G : Heap) {k : Nat} (hk : 1 ≤ k ∧ k ≤ 6) (n : Nat) :
    ret (U lf K (n + 2) 4 [.int .i64 (k : Int)] G) fun v G' => ∃ b c, v = .tuple [.ptr (some ⟨b, 0⟩), .ptr (some ⟨c, 0⟩), .bool true] ∧ G'.get b = some (bx false (disk.newB (sizes k))) ∧ G'.Old b ∧ Turns Z G G' := by
  refine ret_callU rfl rfl c4_eq ?_
  simp only [c4, sy, tup, ↓reduceIte, Nat.reduceEqDiff, Nat.reduceAdd, Nat.reduceSub, Nat.reduceMul, Nat.reduceDiv, Nat.reduceMod, Nat.reduceLeDiff, Int.reduceBEq, reduceCtorEq]
  have hloop : ∀ t : T, t.getP (Tr.path 0) = some (.int .i64 (k : Int)) → t.getP (Tr.path 5) = some (.slice none 0 0 0) → t.getP (Tr.path 6) = some (.int .i64 0) →
      wp (loopF (runC (U lf K (n + 1)) lf c4_l0) lf ⟨t, G, []⟩) fun x s' => x = .ex 0 ∧ s'.d = [] ∧ ∃ y, s'.t.getP (Tr.path 5) = some y ∧ Lst G s'.H 1 (rowsI (List.replicate k 6)) y ∧ Turns Z G s'.H := by
    intro t q0 q5 q6
    refine wp_loopF (fun j s' => ∃ i : Nat, j = k - i ∧ i ≤ k ∧ s'.d = [] ∧ s'.t.getP (Tr.path 0) = some (.int .i64 (k : Int)) ∧ s'.t.getP (Tr.path 6) = some (.int .i64 (i : Int)) ∧ ∃ y, s'.t.getP (Tr.path 5) = some y ∧ Lst G s'.H 1 (rowsI (List.replicate i 6)) y ∧ Turns Z G s'.H) ?_ lf k _ ⟨0, rfl, by omega, rfl, q0, q6, _, q5, Lst.nil _ _ _, Turns.refl _ _⟩ (by omega)
    rintro j ⟨t, HH, d⟩ ⟨i, rfl, hi, hd, q0, q6, y, q5, hy, tz⟩
    dsimp only at hd q0 q6 q5 hy tz
    subst hd
    by_cases hlt : i < k
    · have hlt' : (i : Int) < (k : Int) := by omega
      have w2 : IntKind.i64.wrap ((i : Int) + 1) = ((i + 1 : Nat) : Int) := by rw [wrap_i64 (by omega)]; omega
      obtain ⟨H', ea, hv', tz'⟩ := appI hy tz (by simp; omega) 6
      rw [← List.replicate_succ'] at hv'
      simp only [c4_l0, q0, q5, q6, hlt', w2, ea, sy, tup, ↓reduceIte, Nat.reduceEqDiff, Nat.reduceAdd, Nat.reduceSub, Nat.reduceMul, Nat.reduceDiv, Nat.reduceMod, Nat.reduceLeDiff, Int.reduceBEq, reduceCtorEq]
      exact ⟨k - (i + 1), by omega, i + 1, rfl, by omega, trivial, trivial, by simp, _, rfl, hv', tz'⟩
    · have : i = k := by omega
      subst this
      simp only [c4_l0, q0, q5, q6, Int.lt_irrefl, sy, tup, ↓reduceIte, Nat.reduceEqDiff, Nat.reduceAdd, Nat.reduceSub, Nat.reduceMul, Nat.reduceDiv, Nat.reduceMod, Nat.reduceLeDiff, Int.reduceBEq, reduceCtorEq]
      exact ⟨trivial, trivial, y, rfl, hy, tz⟩
  refine wp_ctx (F := fun r => seqC _ _ _ (blockC _ r)) (hloop _ ?_ ?_ ?_) ?_
  · simp only [sy, tup, ↓reduceIte, Nat.reduceEqDiff, Nat.reduceAdd, Nat.reduceSub, Nat.reduceMul, Nat.reduceDiv, Nat.reduceMod, Nat.reduceLeDiff, Int.reduceBEq, reduceCtorEq]
  · simp only [sy, tup, ↓reduceIte, Nat.reduceEqDiff, Nat.reduceAdd, Nat.reduceSub, Nat.reduceMul, Nat.reduceDiv, Nat.reduceMod, Nat.reduceLeDiff, Int.reduceBEq, reduceCtorEq]
  · simp only [sy, tup, ↓reduceIte, Nat.reduceEqDiff, Nat.reduceAdd, Nat.reduceSub, Nat.reduceMul, Nat.reduceDiv, Nat.reduceMod, Nat.reduceLeDiff, Int.reduceBEq, reduceCtorEq]
  rintro x ⟨t, HH, d⟩ ⟨rfl, hd, y, q5, hy, tz⟩
  dsimp only at hd q5 hy tz
  subst hd
  obtain ⟨H1, ea, hv1, t1⟩ := appI hy tz (by simp; omega) 50
  obtain ⟨p, ep, hP⟩ := picks_lst hv1 (by simp)
  have hok := okSizes_k hk
  change disk.PicksAt H1 p (sizes k) disk.Z at hP
  rw [ep] at ea
  have e2 : U lf K (n + 1) 16 [.slice p (List.replicate k (6 : Int) ++ [50]).length (List.replicate k (6 : Int) ++ [50]).length 1] H1 = _ := qNew hP hok _ _
  have t2 : Turns Z H1 ((H1.add (bx false (disk.newB (sizes k)))).skip (K + 1)) := by repeat (first | exact Turns.refl _ _ | apply Turns.skip | apply Turns.addm | apply Turns.setb | apply Turns.setl | apply Turns.setr | refine Turns.setn ?_ _ (by omega) _ | refine Turns.trans ?_ (tF _))
  have e3 : U lf K (n + 1) 17 [.slice p (List.replicate k (6 : Int) ++ [50]).length (List.replicate k (6 : Int) ++ [50]).length 1] ((H1.add (bx false (disk.newB (sizes k)))).skip (K + 1)) = _ := qRNew (hP.turns t2) hok _ _
  simp only [q5, ea, e2, e3, sy, tup, ↓reduceIte, Nat.reduceEqDiff, Nat.reduceAdd, Nat.reduceSub, Nat.reduceMul, Nat.reduceDiv, Nat.reduceMod, Nat.reduceLeDiff, Int.reduceBEq, reduceCtorEq]
  refine ⟨trivial, .inr trivial, _, rfl, _, _, rfl, ?_, ?_, ?_⟩
  · simp (maxDischargeDepth := 12) only [hv, ldO_one, stO_one, sy, tup, ↓reduceIte, Nat.reduceEqDiff, Nat.reduceAdd, Nat.reduceSub, Nat.reduceMul, Nat.reduceDiv, Nat.reduceMod, Nat.reduceLeDiff, Int.reduceBEq, reduceCtorEq]
  · show H1.next < H1.next + 1 + (K + 1) + 1 + (K + 1); omega
  · refine t1.trans ?_
    repeat (first | exact Turns.refl _ _ | apply Turns.skip | apply Turns.addm | apply Turns.setb | apply Turns.setl | apply Turns.setr | refine Turns.setn ?_ _ (by omega) _ | refine Turns.trans ?_ (tF _))
end
theorem HB.failed {G : Heap} {h b : Bk} {id ev m s r : Int} {S : List Nat} {c : Int} {g : Bool} {B : disk.Bn} (x : HB G h b id ev m s r S c g B) {B' : disk.Bn} (hf : Fit B') (k : Nat) : HB ((G.set b (bx false B')).skip k) h b id ev m s r S c g B' :=
  x.step (by repeat (first | exact Turns.refl _ _ | apply Turns.skip | apply Turns.addm | apply Turns.setb | apply Turns.setl | apply Turns.setr | refine Turns.setn ?_ _ (by omega) _ | refine Turns.trans ?_ (tF _))) (by rw [get_skip, Heap.get_set, if_pos rfl]) hf
theorem zero_calm {M : Nat} (hM : 3 ≤ M ∧ M ≤ 6) : Calm M 0 (disk.newB (sizes M)) ∧ (∀ j : Nat, j < M → (disk.newB (sizes M)).dev (j : Int) = disk.blank 6) ∧ (disk.newB (sizes M)).dev (M : Int) = disk.blank 50 ∧ (disk.newB (sizes M)).l.length = M + 1 := by
  have hlen : (disk.newB (sizes M)).l.length = M + 1 := by unfold disk.newB sizes; simp
  have dv : ∀ j : Nat, j < M → (disk.newB (sizes M)).dev (j : Int) = disk.blank 6 := fun j hj => by
    rw [dev_at (by omega)]
    unfold disk.newB sizes
    simp only [List.getElem_map]
    rw [List.getElem_append_left (by simpa using hj)]
    simp
  refine ⟨⟨disk.okNew (okSizes_k (by omega)), rfl, rfl, hlen, by omega, fun j hj => ?_, fun j hj => ?_⟩, dv, ?_, hlen⟩
  · rw [dv j hj]; decide
  · rw [dv j hj]; rfl
  · rw [dev_at (by omega)]
    unfold disk.newB sizes
    simp only [List.getElem_map]
    rw [List.getElem_append_right (by simp)]
    simp
theorem seal_zero : sealN 0 = 0 := by
  unfold sealN leN
  rfl
end Go.Proofs.Ytabebpemfinejaa.draft
