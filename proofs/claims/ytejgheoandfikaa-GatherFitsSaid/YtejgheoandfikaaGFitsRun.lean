import Derived.Test.YtejgheoandfikaaRSup
import Derived.Test.YtejgheoandfikaaRef
import Derived.Test.YtejgheoandfikaaGather
import Derived.Test.YtejgheoandfikaaAmList
/-
  Sectors that are written, as they lie with the arguments; and their blocks (ashlarlaw22.Put).
-/
set_option linter.unusedVariables false
set_option linter.unusedSimpArgs false
set_option maxRecDepth 10000
namespace Go.Proofs.Ytejgheoandfikaa.draft
open Go.Am

/-- (ashlar/ashlarlaw22.Put).block -/
noncomputable def c11 : CFn := ⟨[.cell (pp 2) 64 .bk],
 .seq (.reg [
 qo 1 (.m (boxF 93 (tt 0))) [pp 0],
 qo 2 (.m (allocF 64 [.blk 0])) []]) (
 .seq (.reg [
 qo 4 (.p (faddrF (tt 1) 27)) [pp 1],
 qo 5 (.r (loadF (tt 4) 64 .bk)) [pp 4],
 qo 3 (.m (allocF 64 [.blk 0])) [],
 qn (.a (storeF (tt 3) (tt 5) 64)) [pp 3, pp 5]]) (
 .seq (.seq (.reg [
 qo 6 (.p (faddrF (tt 1) 26)) [pp 1],
 qo 7 (.r (loadF (tt 6) 1 .sc)) [pp 6],
 qo 8 (.p (unF .not (tt 7))) [pp 7]]) (
 .cond (tt 8) (.reg [
 qo 10 (.p (faddrF (tt 1) 2)) [pp 1],
 qo 11 (.r (loadF (tt 10) 1 .sc)) [pp 10],
 qo 12 (.p (faddrF (tt 1) 3)) [pp 1],
 qo 13 (.r (loadF (tt 12) 23 .ag)) [pp 12],
 qo 14 (.c (callF (ff 41) [(tt 11), (tt 13)])) [pp 11, pp 13],
 mv 9 14,
 qo 15 (.p (extF (tt 9) 0)) [pp 9],
 qo 16 (.p (extF (tt 9) 1)) [pp 9],
 qn (.a (storeF (tt 3) (tt 15) 64)) [pp 3, pp 15]]) (.skip))) (
 .seq (.regD [
 qo 17 (.p (faddrF (tt 1) 91)) [pp 1],
 qo 18 (.r (loadF (tt 17) 1 .sc)) [pp 17],
 qo 19 (.p (arF .rem (tt 18) (.c (.int .u8 64)))) [pp 18],
 qo 20 (.p (iaddrAF (tt 3) (tt 19) 64 1)) [pp 3, pp 19],
 qo 21 (.r (loadF (tt 20) 1 .sc)) [pp 20],
 qo 22 (.p (faddrF (tt 1) 92)) [pp 1],
 qo 23 (.r (loadF (tt 22) 1 .sc)) [pp 22],
 qo 24 (.p (arF .xor (tt 21) (tt 23))) [pp 21, pp 23],
 qo 25 (.p (iaddrAF (tt 3) (tt 19) 64 1)) [pp 3, pp 19],
 qn (.a (storeF (tt 25) (tt 24) 1)) [pp 25, pp 24]] [0, 1, 3, 7, 15, 0, 32, 127, 255, 511]) (
 .seq (.reg [
 qo 26 (.r (loadF (tt 3) 64 .bk)) [pp 3],
 qn (.a (storeF (tt 2) (tt 26) 64)) [pp 2, pp 26]]) (
 .ret)))))⟩
theorem c11_eq : fnOf Try.prog 11 = some c11 := by kernel_rfl


structure SPut where
  D : Int
  N : Int
  E : Nat
  id : Nat
  me : Int
  m : Int
  s : Int
  r : Int
  S : List Nat
  c : Int
  g : Bool
  y : Bool
  B : Nat
  j : Nat
  x : Nat
def SPut.pre (p : SPut) : List V := [.int .i64 p.D, .int .i64 p.N, .int .u64 (p.E : Int)] ++ (scells p.id p.me p.m p.s p.r p.S p.c p.g ++ [.bool p.y])
def SPut.row (p : SPut) : List V := p.pre ++ [.blk p.B, .int .u8 (p.j : Int), .int .u8 (p.x : Int)]
structure SPut.ok (p : SPut) : Prop where
  E : p.E < 18446744073709551616
  id : p.id < 18446744073709551616
  S : p.S.length = 16
  j : p.j < 256
  x : p.x < 256
  B : p.B < 256 ^ 64
structure SPutsAt (H : Heap) (pp : Option Ptr) (A : List SPut) : Prop where
  has : A ≠ [] → ∃ x ro rows, pp = some ⟨x, 0⟩ ∧ H.Old x ∧ H.get x = some (.rows ro 93 rows) ∧ ∀ i, (hi : i < A.length) → rows[i]? = some A[i].row
  ok : ∀ a ∈ A, a.ok

theorem cut_pre : ∀ {l : List V}, Thin l → ∀ (r : List V) {o n : Nat}, o + (n + 1) ≤ l.length → cut (l ++ r) o (n + 1) = some ((l.drop o).take (n + 1))
  | [], _, r, o, n, h => absurd h (by simp)
  | c :: l, ht, r, 0, 0, h => by
    have hc := ht c (List.mem_cons_self ..)
    rw [List.cons_append, cut_hit _ _ hc]; rfl
  | c :: l, ht, r, 0, n + 1, h => by
    have hc := ht c (List.mem_cons_self ..)
    have ih := cut_pre (fun v hv => ht v (List.mem_cons_of_mem _ hv)) r (o := 0) (n := n) (by simp at h ⊢; omega)
    show (match c.asBlk with | some B => _ | none => (cut (l ++ r) 0 (n + 1)).map (c :: ·)) = _
    rw [hc, ih]; rfl
  | c :: l, ht, r, o + 1, n, h => by
    have hc := ht c (List.mem_cons_self ..)
    rw [List.cons_append, cut_miss _ _ _ _ hc, cut_pre (fun v hv => ht v (List.mem_cons_of_mem _ hv)) r (by simp at h; omega)]; rfl
theorem cut_past : ∀ {l : List V}, Thin l → ∀ (r : List V) (o n : Nat), cut (l ++ r) (l.length + o) (n + 1) = cut r o (n + 1)
  | [], _, r, o, n => by simp
  | c :: l, ht, r, o, n => by
    have hc := ht c (List.mem_cons_self ..)
    rw [List.cons_append, List.length_cons, show l.length + 1 + o = (l.length + o) + 1 by omega, cut_miss _ _ _ _ hc]
    exact cut_past (fun v hv => ht v (List.mem_cons_of_mem _ hv)) r o n
theorem cut_over : ∀ {l : List V}, Thin l → ∀ (r : List V) (n : Nat), cut (l ++ r) 0 (l.length + (n + 1)) = (cut r 0 (n + 1)).map (l ++ ·)
  | [], _, r, n => by
    rw [List.nil_append, List.length_nil, Nat.zero_add]
    cases cut r 0 (n + 1) <;> rfl
  | c :: l, ht, r, n => by
    have hc := ht c (List.mem_cons_self ..)
    have ih := cut_over (fun v hv => ht v (List.mem_cons_of_mem _ hv)) r n
    rw [List.cons_append, List.length_cons, show l.length + 1 + (n + 1) = (l.length + (n + 1)) + 1 by omega]
    show (match c.asBlk with | some B => _ | none => (cut (l ++ r) 0 (l.length + (n + 1))).map (c :: ·)) = _
    rw [hc, ih]
    cases cut r 0 (n + 1) <;> rfl
theorem width_over : ∀ {l : List V}, Thin l → ∀ (r : List V), width (l ++ r) = l.length + width r
  | [], _, r => by simp
  | c :: l, ht, r => by
    have hc := ht c (List.mem_cons_self ..)
    have ih := width_over (fun v hv => ht v (List.mem_cons_of_mem _ hv)) r
    have : c.w = 1 := by unfold V.w; rw [hc]
    show Nat.add c.w (width (l ++ r)) = _
    rw [this, ih, List.length_cons]
    show 1 + (l.length + width r) = _
    omega

theorem pre_thin (p : SPut) : Thin p.pre := by
  intro v hv
  unfold SPut.pre at hv
  rcases List.mem_append.1 hv with h | h
  · simp at h; rcases h with rfl | rfl | rfl <;> rfl
  · rcases List.mem_append.1 h with h | h
    · exact s_thin _ _ _ _ _ _ _ _ v h
    · simp at h; subst h; rfl
theorem pre_len (p : SPut) (h : p.S.length = 16) : p.pre.length = 27 := by
  unfold SPut.pre
  rw [List.length_append, List.length_append, s_len h]; rfl

theorem sput_cuts (p : SPut) (h : p.S.length = 16) : cut p.row 0 1 = some [.int .i64 p.D] ∧ cut p.row 1 1 = some [.int .i64 p.N] ∧ cut p.row 2 1 = some [.int .u64 (p.E : Int)] ∧ cut p.row 3 23 = some (scells p.id p.me p.m p.s p.r p.S p.c p.g) ∧ cut p.row 26 1 = some [.bool p.y] ∧ cut p.row 27 64 = some [.blk p.B] ∧ cut p.row 91 1 = some [.int .u8 (p.j : Int)] ∧ cut p.row 92 1 = some [.int .u8 (p.x : Int)] ∧ cut p.row 0 93 = some p.row ∧ width p.row = 93 := by
  have ht := pre_thin p
  have hl := pre_len p h
  have hs := s_len h p.id p.me p.m p.s p.r p.c p.g
  unfold SPut.row
  refine ⟨?_, ?_, ?_, ?_, ?_, ?_, ?_, ?_, ?_, ?_⟩
  · rw [cut_pre ht _ (by omega)]; rfl
  · rw [cut_pre ht _ (by omega)]; rfl
  · rw [cut_pre ht _ (by omega)]; rfl
  · rw [cut_pre ht _ (by omega)]
    unfold SPut.pre
    show some (List.take 23 (scells p.id p.me p.m p.s p.r p.S p.c p.g ++ [V.bool p.y])) = _
    rw [List.take_left' hs]
  · rw [cut_pre ht _ (by omega)]
    unfold SPut.pre
    show some (List.take 1 (List.drop 23 (scells p.id p.me p.m p.s p.r p.S p.c p.g ++ [V.bool p.y]))) = _
    rw [List.drop_left' hs]; rfl
  · have := cut_past ht [V.blk p.B, .int .u8 (p.j : Int), .int .u8 (p.x : Int)] 0 63
    rw [hl] at this
    rw [this]; exact cut_blk _ _
  · have := cut_past ht [V.blk p.B, .int .u8 (p.j : Int), .int .u8 (p.x : Int)] 64 0
    rw [hl] at this
    rw [this]; rfl
  · have := cut_past ht [V.blk p.B, .int .u8 (p.j : Int), .int .u8 (p.x : Int)] 65 0
    rw [hl] at this
    rw [this]; rfl
  · have := cut_over ht [V.blk p.B, .int .u8 (p.j : Int), .int .u8 (p.x : Int)] 65
    rw [hl] at this
    rw [this]; rfl
  · rw [width_over ht, hl]; rfl

theorem SPutsAt.load {H H' : Heap} {pp : Option Ptr} {A : List SPut} (h : SPutsAt H pp A) (k : Turns Z H H') {i : Nat} (hi : i < A.length) : ∃ x, pp = some ⟨x, 0⟩ ∧ loadAt H' ⟨x, i * 93⟩ 93 = some A[i].row ∧ loadAt H' ⟨x, i * 93⟩ 1 = some [.int .i64 A[i].D] ∧ loadAt H' ⟨x, i * 93 + 1⟩ 1 = some [.int .i64 A[i].N] := by
  obtain ⟨x, ro, rows, hp, ho, hg, hr⟩ := h.has (fun e => by rw [e] at hi; simp at hi)
  obtain ⟨c1, c2, _, _, _, _, _, _, c3, _⟩ := sput_cuts A[i] (h.ok _ (List.getElem_mem hi)).S
  have d1 : (i * 93) / 93 = i := Nat.mul_div_cancel _ (by decide)
  have d2 : (i * 93 + 1) / 93 = i := by omega
  have m2 : (i * 93 + 1) % 93 = 1 := by omega
  refine ⟨x, hp, ?_, ?_, ?_⟩
  · rw [loadAt_eq ((k.same x ho (fun h => h)).trans hg) (r := A[i].row) (nth_of (by rw [d1]; exact hr i hi)), Nat.mul_mod_left, c3]
  · rw [loadAt_eq ((k.same x ho (fun h => h)).trans hg) (r := A[i].row) (nth_of (by rw [d1]; exact hr i hi)), Nat.mul_mod_left, c1]
  · rw [loadAt_eq ((k.same x ho (fun h => h)).trans hg) (r := A[i].row) (nth_of (by rw [d2]; exact hr i hi)), m2, c2]

open Classical in
/-- the block that is written, ahead of the spoiling -/
noncomputable def SPut.raw (p : SPut) : Nat := if p.y = true then p.B else if evt p.E = true ∧ smay p.id p.me p.m p.s p.r p.S p.c then supBlk p.E p.id p.me p.m p.s p.r p.S p.c p.g else 0
noncomputable def SPut.blk (p : SPut) : Nat := disk.rotN p.raw (p.j % 64) p.x

open Classical in
theorem pblk_ok (H : Heap) (p : SPut) (hp : p.ok) {lf : Nat} (hlf : 80 < lf) (n : Nat) :
    ret (callS Try.prog S0 lf (n + 7) 11 [.agg p.row] H) fun v H' => Turns Z H H' ∧ v = .blk p.blk := by
  obtain ⟨c1, c2, c3, c4, c5, c6, c7, c8, c9, cw⟩ := sput_cuts p hp.S
  have hblk : p.blk = setByte p.raw (p.j % 64) (disk.xo8 (byte p.raw (p.j % 64)) p.x) := rfl
  have hraw : p.raw = if p.y = true then p.B else if evt p.E = true ∧ smay p.id p.me p.m p.s p.r p.S p.c then supBlk p.E p.id p.me p.m p.s p.r p.S p.c p.g else 0 := rfl
  have t0 := Turns.add Z H (.rows false 93 [p.row])
  have hg0 : (H.add (.rows false 93 [p.row])).get (.run H.next) = some (.rows false 93 [p.row]) := by rw [Heap.get_add, if_pos rfl]
  have hn0 : (H.add (.rows false 93 [p.row])).next = H.next + 1 := by simp
  obtain ⟨H0, hH0⟩ : ∃ K, H.add (.rows false 93 [p.row]) = K := ⟨_, rfl⟩
  rw [hH0] at t0 hg0 hn0
  have t1 := Turns.add Z H0 (.rows false 64 [[.blk 0]])
  have hg1 : (H0.add (.rows false 64 [[.blk 0]])).get (.run (H.next + 1)) = some (.rows false 64 [[.blk 0]]) := by rw [Heap.get_add, if_pos (by rw [hn0])]
  have hn1 : (H0.add (.rows false 64 [[.blk 0]])).next = H.next + 2 := by simp [hn0]
  obtain ⟨H1, hH1⟩ : ∃ K, H0.add (.rows false 64 [[.blk 0]]) = K := ⟨_, rfl⟩
  rw [hH1] at t1 hg1 hn1
  have row : ∀ {K : Heap}, Turns Z H0 K → ∀ o k, loadAt K ⟨.run H.next, o⟩ k = if o < 93 then cut p.row o k else loadAt K ⟨.run H.next, o⟩ k := fun {K} t o k => by
    by_cases ho : o < 93
    · rw [if_pos ho, loadAt_eq (r := p.row) ((t.same (.run H.next) (by show _ < _; omega) (fun h => h)).trans hg0) (nth_of (by rw [Nat.div_eq_of_lt ho]; rfl)), Nat.mod_eq_of_lt ho]
    · rw [if_neg ho]
  have lB : loadAt H1 ⟨.run H.next, 27⟩ 64 = some [.blk p.B] := by rw [row t1, if_pos (by decide), c6]
  -- the block in its cell
  have hg2 : ((H1.add (.rows false 64 [[.blk 0]])).set (.run (H.next + 2)) (.rows false 64 [[.blk p.B]])).get (.run (H.next + 2)) = some (.rows false 64 [[.blk p.B]]) := by rw [Heap.get_set, if_pos rfl]
  have hga : (H1.add (.rows false 64 [[.blk 0]])).get (.run (H.next + 2)) = some (.rows false 64 [[.blk 0]]) := by rw [Heap.get_add, if_pos (by rw [hn1])]
  have s2 := disk.cell_store (v := p.B) hga
  have t2 : Turns Z H1 ((H1.add (.rows false 64 [[.blk 0]])).set (.run (H.next + 2)) (.rows false 64 [[.blk p.B]])) := (Turns.add Z H1 _).setnew (by omega) _
  have hn2 : ((H1.add (.rows false 64 [[.blk 0]])).set (.run (H.next + 2)) (.rows false 64 [[.blk p.B]])).next = H.next + 3 := by simp [hn1]
  obtain ⟨H2, hH2⟩ : ∃ K, (H1.add (.rows false 64 [[.blk 0]])).set (.run (H.next + 2)) (.rows false 64 [[.blk p.B]]) = K := ⟨_, rfl⟩
  rw [hH2] at s2 t2 hg2 hn2
  have ly : loadAt H2 ⟨.run H.next, 26⟩ 1 = some [.bool p.y] := by rw [row (t1.trans t2), if_pos (by decide), c5]
  have lE : loadAt H2 ⟨.run H.next, 2⟩ 1 = some [.int .u64 (p.E : Int)] := by rw [row (t1.trans t2), if_pos (by decide), c3]
  have lS : loadAt H2 ⟨.run H.next, 3⟩ 23 = some (scells p.id p.me p.m p.s p.r p.S p.c p.g) := by rw [row (t1.trans t2), if_pos (by decide), c4]
  have r64 : arith .rem (.int .u8 (p.j : Int)) (.int .u8 64) = some (.int .u8 ((p.j % 64 : Nat) : Int)) := rem_u8 p.j 64 (by decide)
  have hj : p.j % 64 < 64 := Nat.mod_lt _ (by decide)
  -- the end: from the raw block in its cell
  have fin : ∀ {K : Heap}, Turns Z H1 K → K.get (.run (H.next + 2)) = some (.rows false 64 [[.blk p.raw]]) → H.next + 3 ≤ K.next →
      loadAt K ⟨.run H.next, 91⟩ 1 = some [.int .u8 (p.j : Int)] ∧ loadAt K ⟨.run H.next, 92⟩ 1 = some [.int .u8 (p.x : Int)] ∧ loadAt K ⟨.run (H.next + 2), p.j % 64⟩ 1 = some [.int .u8 ((byte p.raw (p.j % 64) : Nat) : Int)] ∧
      arith .xor (.int .u8 ((byte p.raw (p.j % 64) : Nat) : Int)) (.int .u8 (p.x : Int)) = some (.int .u8 ((disk.xo8 (byte p.raw (p.j % 64)) p.x : Nat) : Int)) ∧
      ∃ K', storeAt K ⟨.run (H.next + 2), p.j % 64⟩ [.int .u8 ((disk.xo8 (byte p.raw (p.j % 64)) p.x : Nat) : Int)] = some K' ∧ loadAt K' ⟨.run (H.next + 2), 0⟩ 64 = some [.blk p.blk] ∧
      ∃ K'', storeAt K' ⟨.run (H.next + 1), 0⟩ [.blk p.blk] = some K'' ∧ loadAt K'' ⟨.run (H.next + 1), 0⟩ 64 = some [.blk p.blk] ∧ Turns Z H K'' := fun {K} t gK hK => by
    have hx := disk.xo8_lt (byte_lt p.raw (p.j % 64)) hp.x
    refine ⟨by rw [row (t1.trans t), if_pos (by decide), c7], by rw [row (t1.trans t), if_pos (by decide), c8], disk.cell_load_byte gK hj, disk.xor_u8 (byte_lt _ _) hp.x, _, disk.cell_store_byte gK hj hx, ?_, ?_⟩
    · rw [← hblk, loadAt_eq (b := .run (H.next + 2)) (r := [.blk p.blk]) (by rw [Heap.get_set, if_pos rfl]) rfl]; exact cut_blk _ _
    · have g1 : (K.set (.run (H.next + 2)) (.rows false 64 [[.blk (setByte p.raw (p.j % 64) (disk.xo8 (byte p.raw (p.j % 64)) p.x))]])).get (.run (H.next + 1)) = some (.rows false 64 [[.blk 0]]) := by
        rw [Heap.get_set, if_neg (fun e => by have := Bk.run.inj e; omega)]
        exact (t.same (.run (H.next + 1)) (by show _ < _; omega) (fun h => h)).trans hg1
      refine ⟨_, disk.cell_store g1, ?_, ((((t0.trans t1).trans t).setnew (by omega) _).setnew (by omega) _)⟩
      rw [loadAt_eq (b := .run (H.next + 1)) (r := [.blk p.blk]) (by rw [Heap.get_set, if_pos rfl]) rfl]; exact cut_blk _ _
  have hle : p.j % 64 + 1 ≤ 64 := hj
  generalize hjj : p.j % 64 = jj at *
  refine ret_call rfl c11_eq ?_
  cases hy : p.y with
  | true =>
    have hr : p.raw = p.B := by rw [hraw, if_pos hy]
    obtain ⟨f1, f2, f3, f4, K', f5, f6, K'', f7, f8, f9⟩ := fin t2 (by rw [hr]; exact hg2) (by omega)
    rw [hy] at ly
    simp only [c11, cw, hH0, hH1, hn0, hn1, lB, s2, ly, sy, tup, ↓reduceIte, Nat.reduceEqDiff, Nat.reduceAdd, Nat.reduceSub, Nat.reduceMul, Nat.reduceDiv, Nat.reduceMod, Nat.reduceLeDiff, Int.reduceBEq, reduceCtorEq]
    simp only [f1, f2, f3, f4, f5, r64, hle, iaddrAF, Nat.mul_one, sy, tup, ↓reduceIte, Nat.reduceEqDiff, Nat.reduceAdd, Nat.reduceSub, Nat.reduceMul, Nat.reduceDiv, Nat.reduceMod, Nat.reduceLeDiff, Int.reduceBEq, reduceCtorEq]
    rw [endD_ok (by kernel_rfl) (by kernel_rfl)]
    simp only [f6, f7, f8, sy, tup, ↓reduceIte, Nat.reduceEqDiff, Nat.reduceAdd, Nat.reduceSub, Nat.reduceMul, Nat.reduceDiv, Nat.reduceMod, Nat.reduceLeDiff, Int.reduceBEq, reduceCtorEq]
    exact ⟨trivial, .inr trivial, _, rfl, f9, rfl⟩
  | false =>
    rw [hy] at ly
    obtain ⟨v3, H3, e3, t3, hv3⟩ := rput8_ok H2 (N := p.E) (id := p.id) (me := p.me) (m := p.m) (s := p.s) (r := p.r) (S := p.S) (c := p.c) (g := p.g) hp.E hp.id hp.S hlf n
    unfold sup at e3
    have g3 : H3.get (.run (H.next + 2)) = some (.rows false 64 [[.blk p.B]]) := (t3.same (.run (H.next + 2)) (by show _ < _; omega) (fun h => h)).trans hg2
    have hh : ∃ E : Int, v3 = .tuple [.blk p.raw, .int .i64 E] := by
      rcases hv3 with ⟨h1, h2, rfl⟩ | ⟨h1, rfl⟩
      · exact ⟨0, by rw [hraw, if_neg (by rw [hy]; decide), if_pos ⟨h1, h2⟩]⟩
      · exact ⟨2, by rw [hraw, if_neg (by rw [hy]; decide), if_neg h1]⟩
    obtain ⟨EE, rfl⟩ := hh
    have s3 := disk.cell_store (v := p.raw) g3
    have hn3 := t3.next
    obtain ⟨f1, f2, f3, f4, K', f5, f6, K'', f7, f8, f9⟩ := fin (K := H3.set (.run (H.next + 2)) (.rows false 64 [[.blk p.raw]])) ((t2.trans t3).setnew (by omega) _) (by rw [Heap.get_set, if_pos rfl]) (by simp; omega)
    simp only [c11, cw, hH0, hH1, hn0, hn1, lB, s2, ly, lE, lS, e3, s3, sy, tup, ↓reduceIte, Nat.reduceEqDiff, Nat.reduceAdd, Nat.reduceSub, Nat.reduceMul, Nat.reduceDiv, Nat.reduceMod, Nat.reduceLeDiff, Int.reduceBEq, reduceCtorEq]
    simp only [f1, f2, f3, f4, f5, r64, hle, iaddrAF, Nat.mul_one, sy, tup, ↓reduceIte, Nat.reduceEqDiff, Nat.reduceAdd, Nat.reduceSub, Nat.reduceMul, Nat.reduceDiv, Nat.reduceMod, Nat.reduceLeDiff, Int.reduceBEq, reduceCtorEq]
    rw [endD_ok (by kernel_rfl) (by kernel_rfl)]
    simp only [f6, f7, f8, sy, tup, ↓reduceIte, Nat.reduceEqDiff, Nat.reduceAdd, Nat.reduceSub, Nat.reduceMul, Nat.reduceDiv, Nat.reduceMod, Nat.reduceLeDiff, Int.reduceBEq, reduceCtorEq]
    exact ⟨trivial, .inr trivial, _, rfl, f9, rfl⟩

def putSh : Sh := .seq (.int .i64) (.seq (.int .i64) (.seq (.int .u64) (.seq (.seq (.int .u64) (.seq (.int .i64) (.seq (.seq (.seq (.int .i64) (.seq (.int .i64) (.seq (.int .i64) .nil))) (.seq (.seq (.int .u8) (.seq (.int .u8) (.seq (.int .u8) (.seq (.int .u8) (.seq (.int .u8) (.seq (.int .u8) (.seq (.int .u8) (.seq (.int .u8) (.seq (.int .u8) (.seq (.int .u8) (.seq (.int .u8) (.seq (.int .u8) (.seq (.int .u8) (.seq (.int .u8) (.seq (.int .u8) (.seq (.int .u8) .nil)))))))))))))))) (.seq (.int .i64) (.seq .bool .nil)))) .nil))) (.seq .bool (.seq .blk (.seq (.int .u8) (.seq (.int .u8) .nil)))))))

theorem wf_u64 {n : Int} (h : (Lit.int .u64 n).wf = true) : ∃ s : Nat, s < 18446744073709551616 ∧ n = (s : Int) := by
  have h : (decide (IntKind.u64.min ≤ n) && decide (n ≤ IntKind.u64.max)) = true := h
  simp only [Bool.and_eq_true, decide_eq_true_eq] at h
  have h1 : (0 : Int) ≤ n := h.1
  have h2 : n ≤ 18446744073709551615 := h.2
  exact ⟨n.toNat, by omega, (Int.toNat_of_nonneg h1).symm⟩

theorem sts_of {a : Nat → Option Am.Obj} {C : List V} (h : Fits a (.seq (.int .u8) (.seq (.int .u8) (.seq (.int .u8) (.seq (.int .u8) (.seq (.int .u8) (.seq (.int .u8) (.seq (.int .u8) (.seq (.int .u8) (.seq (.int .u8) (.seq (.int .u8) (.seq (.int .u8) (.seq (.int .u8) (.seq (.int .u8) (.seq (.int .u8) (.seq (.int .u8) (.seq (.int .u8) .nil)))))))))))))))) C) : ∃ S, List.length S = 16 ∧ C = sts S := by
  obtain ⟨_, _, rfl, ⟨nx0, wx0, rfl⟩, _, _, rfl, ⟨nx1, wx1, rfl⟩, _, _, rfl, ⟨nx2, wx2, rfl⟩, _, _, rfl, ⟨nx3, wx3, rfl⟩, _, _, rfl, ⟨nx4, wx4, rfl⟩, _, _, rfl, ⟨nx5, wx5, rfl⟩, _, _, rfl, ⟨nx6, wx6, rfl⟩, _, _, rfl, ⟨nx7, wx7, rfl⟩, _, _, rfl, ⟨nx8, wx8, rfl⟩, _, _, rfl, ⟨nx9, wx9, rfl⟩, _, _, rfl, ⟨nx10, wx10, rfl⟩, _, _, rfl, ⟨nx11, wx11, rfl⟩, _, _, rfl, ⟨nx12, wx12, rfl⟩, _, _, rfl, ⟨nx13, wx13, rfl⟩, _, _, rfl, ⟨nx14, wx14, rfl⟩, _, _, rfl, ⟨nx15, wx15, rfl⟩, rfl⟩ := h
  obtain ⟨x0, _, rfl⟩ := disk.wf_u8 wx0
  obtain ⟨x1, _, rfl⟩ := disk.wf_u8 wx1
  obtain ⟨x2, _, rfl⟩ := disk.wf_u8 wx2
  obtain ⟨x3, _, rfl⟩ := disk.wf_u8 wx3
  obtain ⟨x4, _, rfl⟩ := disk.wf_u8 wx4
  obtain ⟨x5, _, rfl⟩ := disk.wf_u8 wx5
  obtain ⟨x6, _, rfl⟩ := disk.wf_u8 wx6
  obtain ⟨x7, _, rfl⟩ := disk.wf_u8 wx7
  obtain ⟨x8, _, rfl⟩ := disk.wf_u8 wx8
  obtain ⟨x9, _, rfl⟩ := disk.wf_u8 wx9
  obtain ⟨x10, _, rfl⟩ := disk.wf_u8 wx10
  obtain ⟨x11, _, rfl⟩ := disk.wf_u8 wx11
  obtain ⟨x12, _, rfl⟩ := disk.wf_u8 wx12
  obtain ⟨x13, _, rfl⟩ := disk.wf_u8 wx13
  obtain ⟨x14, _, rfl⟩ := disk.wf_u8 wx14
  obtain ⟨x15, _, rfl⟩ := disk.wf_u8 wx15
  exact ⟨[x0, x1, x2, x3, x4, x5, x6, x7, x8, x9, x10, x11, x12, x13, x14, x15], rfl, rfl⟩
theorem geo_of {a : Nat → Option Am.Obj} {C : List V} (h : Fits a (.seq (.int .i64) (.seq (.int .i64) (.seq (.int .i64) .nil))) C) : ∃ m s r, C = [.int .i64 m, .int .i64 s, .int .i64 r] := by
  obtain ⟨_, _, rfl, ⟨m, _, rfl⟩, _, _, rfl, ⟨s, _, rfl⟩, _, _, rfl, ⟨r, _, rfl⟩, rfl⟩ := h
  exact ⟨m, s, r, rfl⟩
theorem rcells_of {a : Nat → Option Am.Obj} {C : List V} (h : Fits a (.seq (.seq (.int .i64) (.seq (.int .i64) (.seq (.int .i64) .nil))) (.seq (.seq (.int .u8) (.seq (.int .u8) (.seq (.int .u8) (.seq (.int .u8) (.seq (.int .u8) (.seq (.int .u8) (.seq (.int .u8) (.seq (.int .u8) (.seq (.int .u8) (.seq (.int .u8) (.seq (.int .u8) (.seq (.int .u8) (.seq (.int .u8) (.seq (.int .u8) (.seq (.int .u8) (.seq (.int .u8) .nil)))))))))))))))) (.seq (.int .i64) (.seq .bool .nil)))) C) : ∃ m s r S c g, List.length S = 16 ∧ C = rcells m s r S c g := by
  obtain ⟨C1, R1, rfl, h1, C2, R2, rfl, h2, C3, R3, rfl, ⟨c, _, rfl⟩, C4, R4, rfl, ⟨g, rfl⟩, rfl⟩ := h
  obtain ⟨m, s, r, rfl⟩ := geo_of h1
  obtain ⟨S, hS, rfl⟩ := sts_of h2
  exact ⟨m, s, r, S, c, g, hS, rfl⟩
theorem scells_of {a : Nat → Option Am.Obj} {C : List V} (h : Fits a (.seq (.int .u64) (.seq (.int .i64) (.seq (.seq (.seq (.int .i64) (.seq (.int .i64) (.seq (.int .i64) .nil))) (.seq (.seq (.int .u8) (.seq (.int .u8) (.seq (.int .u8) (.seq (.int .u8) (.seq (.int .u8) (.seq (.int .u8) (.seq (.int .u8) (.seq (.int .u8) (.seq (.int .u8) (.seq (.int .u8) (.seq (.int .u8) (.seq (.int .u8) (.seq (.int .u8) (.seq (.int .u8) (.seq (.int .u8) (.seq (.int .u8) .nil)))))))))))))))) (.seq (.int .i64) (.seq .bool .nil)))) .nil))) C) : ∃ (id : Nat) (me m s r : Int) (S : List Nat) (c : Int) (g : Bool), id < 18446744073709551616 ∧ S.length = 16 ∧ C = scells id me m s r S c g := by
  obtain ⟨C1, R1, rfl, ⟨id, wid, rfl⟩, C2, R2, rfl, ⟨me, _, rfl⟩, C3, R3, rfl, h3, rfl⟩ := h
  obtain ⟨m, s, r, S, c, g, hS, rfl⟩ := rcells_of h3
  obtain ⟨id, hid, rfl⟩ := wf_u64 wid
  exact ⟨id, me, m, s, r, S, c, g, hid, hS, by rw [List.append_nil]; rfl⟩
theorem put_of {a : Nat → Option Am.Obj} {R : List V} (h : Fits a putSh R) : ∃ p : SPut, p.row = R ∧ p.ok := by
  obtain ⟨C1, R1, rfl, ⟨D, _, rfl⟩, C2, R2, rfl, ⟨N, _, rfl⟩, C3, R3, rfl, ⟨E, wE, rfl⟩, C4, R4, rfl, h4, C5, R5, rfl, ⟨y, rfl⟩, C6, R6, rfl, ⟨B, hB, rfl⟩, C7, R7, rfl, ⟨j, wj, rfl⟩, C8, R8, rfl, ⟨x, wx, rfl⟩, rfl⟩ := h
  obtain ⟨id, me, m, s, r, S, c, g, hid, hS, rfl⟩ := scells_of h4
  obtain ⟨E, hE, rfl⟩ := wf_u64 wE
  obtain ⟨j, hj, rfl⟩ := disk.wf_u8 wj
  obtain ⟨x, hx, rfl⟩ := disk.wf_u8 wx
  refine ⟨⟨D, N, E, id, me, m, s, r, S, c, g, y, B, j, x⟩, ?_, ⟨hE, hid, hS, hj, hx, hB⟩⟩
  unfold SPut.row SPut.pre
  simp
theorem puts_ofL {a : Nat → Option Am.Obj} : ∀ (l : List (List V)), (∀ r ∈ l, Fits a putSh r) → ∃ A : List SPut, A.map SPut.row = l ∧ ∀ x ∈ A, x.ok
  | [], _ => ⟨[], rfl, fun x hx => absurd hx (by simp)⟩
  | r :: l, h => by
    obtain ⟨x, h1, h2⟩ := put_of (h r (List.mem_cons_self ..))
    obtain ⟨A, h3, h4⟩ := puts_ofL l (fun r hr => h r (List.mem_cons_of_mem _ hr))
    refine ⟨x :: A, by rw [List.map_cons, h1, h3], fun z hz => ?_⟩
    rcases List.mem_cons.1 hz with rfl | hz
    · exact h2
    · exact h4 z hz
theorem puts_of {P : Program} {a : Nat → Option Am.Obj} {u : V} (h : FitsV a (.slice 93 putSh) u) : ∃ lp lc A, u = .slice lp (List.length A) lc 0 ∧ SPutsAt (heapA P a) lp A := by
  obtain ⟨C, hf, hu⟩ := h
  rcases hf with rfl | ⟨b, len, rows, rfl, hb, hl, _, hr⟩
  · cases hu
    exact ⟨none, 0, [], rfl, fun e => absurd rfl e, fun x hx => absurd hx (by simp)⟩
  · cases hu
    obtain ⟨A, h1, h2⟩ := puts_ofL (rows.take len) (fun r hr' => hr r (List.mem_of_mem_take hr'))
    have hlen : A.length = len := by
      have := congrArg List.length h1
      simpa [Nat.min_eq_left hl] using this
    refine ⟨some ⟨.arg b, 0⟩, rows.length, A, by rw [hlen], fun _ => ⟨.arg b, true, rows, rfl, trivial, hb, fun i hi => ?_⟩, h2⟩
    have e : (A.map SPut.row)[i]? = (rows.take len)[i]? := by rw [h1]
    rw [List.getElem?_map, List.getElem?_eq_getElem hi, List.getElem?_take, if_pos (by omega)] at e
    exact e.symm

end Go.Proofs.Ytejgheoandfikaa.draft


/-
  The benches of ashlarlaw22; what is found, compared.
-/
set_option linter.unusedVariables false
set_option linter.unusedSimpArgs false
set_option maxRecDepth 10000
namespace Go.Proofs.Ytejgheoandfikaa.disk
open Go.Am

theorem sect_set {B : Bn} {d : Int} {D : Dev} (h : D.S.length = (B.dev d).S.length) (e : Int) (st ar : Int) (dk : Bool) : (Bn.mk (B.l.set d.toNat D) st ar dk).sectors e = B.sectors e := by
  unfold Bn.sectors Bn.tc Bn.dev
  simp only [List.length_set]
  by_cases ht : tcode B.l.length e = 0
  · rw [if_pos ht, if_pos ht]
    by_cases hi : d.toNat = e.toNat
    · unfold Bn.dev at h
      rw [hi] at h ⊢
      by_cases hl : e.toNat < B.l.length
      · rw [List.getD_eq_getElem?_getD, List.getElem?_set_self hl]
        show ((D.S.length : Nat) : Int) = _
        rw [h]
      · rw [List.set_eq_of_length_le (by omega)]
    · rw [List.getD_eq_getElem?_getD, List.getElem?_set_ne hi, ← List.getD_eq_getElem?_getD]
  · rw [if_neg ht, if_neg ht]
/-- what writing does not touch -/
structure Same (B C : Bn) : Prop where
  len : C.l.length = B.l.length
  sec : ∀ d, C.sectors d = B.sectors d
  dk : B.ar = 0 → B.dk = false → C.ar = 0 ∧ C.dk = false
theorem Same.trans {A B C : Bn} (h : Same A B) (k : Same B C) : Same A C := ⟨k.len.trans h.len, fun d => (k.sec d).trans (h.sec d), fun a b => k.dk (h.dk a b).1 (h.dk a b).2⟩
theorem Same.refl (B : Bn) : Same B B := ⟨rfl, fun _ => rfl, fun a b => ⟨a, b⟩⟩
theorem same_step {B : Bn} {d : Int} {D : Dev} (h : D.S.length = (B.dev d).S.length) : Same B (B.step d D) := by
  unfold Bn.step
  split
  · rename_i h1
    exact ⟨rfl, fun _ => rfl, fun a => by rw [h1] at a; cases a⟩
  · refine ⟨List.length_set .., fun e => sect_set h e _ _ _, fun a b => ⟨?_, b⟩⟩
    show arLess B.ar = 0
    rw [a]; rfl
theorem write_S (D : Dev) (n : Int) (x : Nat) : (D.write n x).S = D.S := by
  unfold Dev.write
  split <;> rfl
theorem same_write (B : Bn) (d n : Int) (x : Nat) : Same B (B.write d n x) := by
  unfold Bn.write
  split
  · exact same_step (by rw [write_S])
  · exact Same.refl B

end Go.Proofs.Ytejgheoandfikaa.disk
namespace Go.Proofs.Ytejgheoandfikaa.draft
open Go.Am

noncomputable def c9_l0 : C := .seq (.seq (.reg [
 mv 11 6,
 mv 12 0,
 qo 13 (.p (arF .lss (tt 11) (tt 12))) [pp 11, pp 12]]) (
 .cond (tt 13) (.skip) (.exit 0))) (
 .seq (.block 1 (.reg [
 mv 16 5,
 qo 17 (.m (bsliceF 1 1 [.int .i64 0] [(0, 1, (ii 6))])) [],
 qo 18 (.a (appF 1 8 (tt 16) (tt 17))) [pp 16, pp 17],
 mv 5 18])) (
 .reg [
 mv 14 6,
 qo 15 (.p (arF .add (tt 14) (ii 1))) [pp 14],
 mv 6 15]))
/-- ashlar/ashlarlaw22.benches -/
noncomputable def c9 : CFn := ⟨[.tmp (pp 2), .tmp (pp 3), .tmp (pp 4)],
 .seq (.reg [
 qo 2 (.p (S.get (.c (.ptr none)))) [],
 qo 3 (.p (S.get (.c (.ptr none)))) [],
 qo 4 (.p (S.get (.c (.bool false)))) []]) (
 .seq (.reg [
 qo 5 (.p (S.get (.c (.slice none 0 0 0)))) []]) (
 .seq (.seq (.reg [
 qo 6 (.p (S.get (ii 0))) []]) (
 .block 0 (.loop c9_l0))) (
 .seq (.reg [
 mv 19 5,
 qo 20 (.m (bsliceF 1 1 [.int .i64 0] [(0, 1, (ii 50))])) [],
 qo 21 (.a (appF 1 8 (tt 19) (tt 20))) [pp 19, pp 20],
 mv 5 21]) (
 .seq (.reg [
 mv 23 5,
 qo 24 (.c (callF (ff 35) [(tt 23)])) [pp 23],
 mv 22 24,
 qo 25 (.p (extF (tt 22) 0)) [pp 22],
 qo 26 (.p (extF (tt 22) 1)) [pp 22],
 mv 7 25,
 mv 8 26]) (
 .seq (.reg [
 mv 28 5,
 qo 29 (.c (callF (ff 36) [(tt 28)])) [pp 28],
 mv 27 29,
 qo 30 (.p (extF (tt 27) 0)) [pp 27],
 qo 31 (.p (extF (tt 27) 1)) [pp 27],
 mv 9 30,
 mv 10 31]) (
 .seq (.reg [
 mv 32 7,
 mv 33 9,
 mv 34 8,
 qo 35 (.p (eqcF false false [.int .i64] (tt 34) (ii 0))) [pp 34],
 mv 36 35,
 mg 37 10 36 true,
 qg 38 (.p (eqcF false false [.int .i64] (tt 37) (ii 0))) 36 true [pp 37],
 qo 39 (.p (pickF (tt 36) (tt 38) (.c (.bool false)))) [pp 36, pp 38],
 mv 2 32,
 mv 3 33,
 mv 4 39]) (
 .ret)))))))⟩
theorem c9_eq : fnOf Try.prog 9 = some c9 := by kernel_rfl

/-- ashlar/ashlarlaw22.found -/
noncomputable def c13 : CFn := ⟨[.tmp (pp 4)],
 .seq (.reg [
 qo 2 (.m (boxF 23 (tt 0))) [pp 0],
 qo 3 (.m (boxF 23 (tt 1))) [pp 1],
 qo 4 (.p (S.get (.c (.bool false)))) []]) (
 .seq (.reg [
 qo 5 (.p (faddrF (tt 2) 0)) [pp 2],
 qo 6 (.r (loadF (tt 5) 1 .sc)) [pp 5],
 qo 7 (.p (faddrF (tt 3) 0)) [pp 3],
 qo 8 (.r (loadF (tt 7) 1 .sc)) [pp 7],
 qo 9 (.p (eqcF false false [.int .u64] (tt 6) (tt 8))) [pp 6, pp 8],
 mv 10 9,
 qg 11 (.p (faddrF (tt 2) 1)) 10 true [pp 2],
 qg 12 (.r (loadF (tt 11) 1 .sc)) 10 true [pp 11],
 qg 13 (.p (faddrF (tt 3) 1)) 10 true [pp 3],
 qg 14 (.r (loadF (tt 13) 1 .sc)) 10 true [pp 13],
 qg 15 (.p (eqcF false false [.int .u64] (tt 12) (tt 14))) 10 true [pp 12, pp 14],
 qo 16 (.p (pickF (tt 10) (tt 15) (.c (.bool false)))) [pp 10, pp 15],
 mv 17 16,
 qg 18 (.p (faddrF (tt 2) 2)) 17 true [pp 2],
 qg 19 (.r (loadF (tt 18) 21 .ag)) 17 true [pp 18],
 qg 20 (.p (faddrF (tt 3) 2)) 17 true [pp 3],
 qg 21 (.r (loadF (tt 20) 21 .ag)) 17 true [pp 20],
 qg 22 (.c (callF (ff 25) [(tt 19), (tt 21)])) 17 true [pp 19, pp 21],
 qo 23 (.p (pickF (tt 17) (tt 22) (.c (.bool false)))) [pp 17, pp 22],
 mv 4 23]) (
 .ret))⟩
theorem c13_eq : fnOf Try.prog 13 = some c13 := by kernel_rfl

/-- ashlar/ashlarref08.Rosters -/
noncomputable def c25 : CFn := ⟨[.tmp (pp 4)],
 .seq (.reg [
 qo 2 (.m (boxF 21 (tt 0))) [pp 0],
 qo 3 (.m (boxF 21 (tt 1))) [pp 1],
 qo 4 (.p (S.get (.c (.bool false)))) []]) (
 .seq (.seq (.reg [
 qo 5 (.p (faddrF (tt 2) 0)) [pp 2],
 qo 6 (.p (faddrF (tt 5) 0)) [pp 5],
 qo 7 (.r (loadF (tt 6) 1 .sc)) [pp 6],
 qo 8 (.p (faddrF (tt 3) 0)) [pp 3],
 qo 9 (.p (faddrF (tt 8) 0)) [pp 8],
 qo 10 (.r (loadF (tt 9) 1 .sc)) [pp 9],
 qo 11 (.p (eqcF true false [.int .i64] (tt 7) (tt 10))) [pp 7, pp 10],
 mv 12 11,
 qg 13 (.p (faddrF (tt 2) 0)) 12 false [pp 2],
 qg 14 (.p (faddrF (tt 13) 1)) 12 false [pp 13],
 qg 15 (.r (loadF (tt 14) 1 .sc)) 12 false [pp 14],
 qg 16 (.p (faddrF (tt 3) 0)) 12 false [pp 3],
 qg 17 (.p (faddrF (tt 16) 1)) 12 false [pp 16],
 qg 18 (.r (loadF (tt 17) 1 .sc)) 12 false [pp 17],
 qg 19 (.p (eqcF true false [.int .i64] (tt 15) (tt 18))) 12 false [pp 15, pp 18],
 qo 20 (.p (pickF (tt 12) (.c (.bool true)) (tt 19))) [pp 12, pp 19],
 mv 21 20,
 qg 22 (.p (faddrF (tt 2) 0)) 21 false [pp 2],
 qg 23 (.p (faddrF (tt 22) 2)) 21 false [pp 22],
 qg 24 (.r (loadF (tt 23) 1 .sc)) 21 false [pp 23],
 qg 25 (.p (faddrF (tt 3) 0)) 21 false [pp 3],
 qg 26 (.p (faddrF (tt 25) 2)) 21 false [pp 25],
 qg 27 (.r (loadF (tt 26) 1 .sc)) 21 false [pp 26],
 qg 28 (.p (eqcF true false [.int .i64] (tt 24) (tt 27))) 21 false [pp 24, pp 27],
 qo 29 (.p (pickF (tt 21) (.c (.bool true)) (tt 28))) [pp 21, pp 28],
 mv 30 29,
 qg 31 (.p (faddrF (tt 2) 19)) 30 false [pp 2],
 qg 32 (.r (loadF (tt 31) 1 .sc)) 30 false [pp 31],
 qg 33 (.p (faddrF (tt 3) 19)) 30 false [pp 3],
 qg 34 (.r (loadF (tt 33) 1 .sc)) 30 false [pp 33],
 qg 35 (.p (eqcF true false [.int .i64] (tt 32) (tt 34))) 30 false [pp 32, pp 34],
 qo 36 (.p (pickF (tt 30) (.c (.bool true)) (tt 35))) [pp 30, pp 35],
 mv 37 36,
 qg 38 (.p (faddrF (tt 2) 20)) 37 false [pp 2],
 qg 39 (.r (loadF (tt 38) 1 .sc)) 37 false [pp 38],
 qg 40 (.p (faddrF (tt 3) 20)) 37 false [pp 3],
 qg 41 (.r (loadF (tt 40) 1 .sc)) 37 false [pp 40],
 qg 42 (.p (eqcF true false [.bool] (tt 39) (tt 41))) 37 false [pp 39, pp 41],
 qo 43 (.p (pickF (tt 37) (.c (.bool true)) (tt 42))) [pp 37, pp 42]]) (
 .cond (tt 43) (.seq (.reg [
 qo 4 (.p (S.get (.c (.bool false)))) []]) (
 .ret)) (.skip))) (
 .seq (.regD [
 qo 44 (.p (faddrF (tt 2) 3)) [pp 2],
 qo 45 (.p (sliceAF 16 1 (tt 44) none none none)) [pp 44],
 qo 46 (.p (faddrF (tt 3) 3)) [pp 3],
 qo 47 (.p (sliceAF 16 1 (tt 46) none none none)) [pp 46],
 qo 48 (.c (callF (ff 57) [(tt 45), (tt 47)])) [pp 45, pp 47],
 mv 4 48] [0, 1, 0, 4, 15, 31]) (
 .ret)))⟩
theorem c25_eq : fnOf Try.prog 25 = some c25 := by kernel_rfl

noncomputable def c57_l0 : C := .seq (.seq (.reg [
 mv 11 5,
 mv 12 0,
 qo 13 (.p (lenF (tt 12))) [pp 12],
 qo 14 (.p (arF .lss (tt 11) (tt 13))) [pp 11, pp 13]]) (
 .cond (tt 14) (.skip) (.exit 0))) (
 .seq (.block 1 (.seq (.regD [
 mv 17 0,
 mv 18 5,
 qo 19 (.p (iaddrSF (tt 17) (tt 18) 1)) [pp 17, pp 18],
 qo 20 (.r (loadF (tt 19) 1 .sc)) [pp 19],
 mv 21 1,
 mv 22 5,
 qo 23 (.p (iaddrSF (tt 21) (tt 22) 1)) [pp 21, pp 22],
 qo 24 (.r (loadF (tt 23) 1 .sc)) [pp 23],
 qo 25 (.p (eqcF true false [.int .u8] (tt 20) (tt 24))) [pp 20, pp 24]] [0, 0, 3, 7, 0, 0, 48, 112, 255]) (
 .cond (tt 25) (.seq (.reg [
 qo 4 (.p (S.get (.c (.bool false)))) []]) (
 .ret)) (.skip)))) (
 .reg [
 mv 15 5,
 qo 16 (.p (arF .add (tt 15) (ii 1))) [pp 15],
 mv 5 16]))
/-- ashlar/ashlarref00.Same -/
noncomputable def c57 : CFn := ⟨[.tmp (pp 4)],
 .seq (.reg [
 qo 4 (.p (S.get (.c (.bool false)))) []]) (
 .seq (.seq (.reg [
 mv 6 0,
 qo 7 (.p (lenF (tt 6))) [pp 6],
 mv 8 1,
 qo 9 (.p (lenF (tt 8))) [pp 8],
 qo 10 (.p (eqcF true false [.int .i64] (tt 7) (tt 9))) [pp 7, pp 9]]) (
 .cond (tt 10) (.seq (.reg [
 qo 4 (.p (S.get (.c (.bool false)))) []]) (
 .ret)) (.skip))) (
 .seq (.seq (.reg [
 qo 5 (.p (S.get (ii 0))) []]) (
 .block 0 (.loop c57_l0))) (
 .seq (.reg [
 qo 4 (.p (S.get (.c (.bool true)))) []]) (
 .ret))))⟩
theorem c57_eq : fnOf Try.prog 57 = some c57 := by kernel_rfl


def sizes (k : Nat) : List Int := List.replicate k 6 ++ [50]
def rowsI (l : List Int) : List (List V) := l.map fun n : Int => [V.int .i64 n]
theorem rowsI_len (l : List Int) : (rowsI l).length = l.length := by unfold rowsI; simp
theorem rowsI_app (l k : List Int) : rowsI (l ++ k) = rowsI l ++ rowsI k := by unfold rowsI; simp
theorem appI {H1 HH : Heap} {ks : List Int} {y : V} (hy : Lst H1 HH 1 (rowsI ks) y) (tz : Turns Z H1 HH) (hl : ks.length ≤ 16) (u : Int) : ∃ H', appendV 1 8 (HH.add (.rows false 1 [[.int .i64 u]])) y (.slice (some ⟨.run HH.next, 0⟩) 1 1 0) = some (.slice (some ⟨.run (HH.next + 1), 0⟩) (ks.length + 1) (ks.length + 1) 1, H') ∧ Lst H1 H' 1 (rowsI (ks ++ [u])) (.slice (some ⟨.run (HH.next + 1), 0⟩) (ks.length + 1) (ks.length + 1) 1) ∧ Turns Z H1 H' := by
  have ta := Turns.add Z HH (.rows false 1 [[.int .i64 u]])
  have hxg : (HH.add (.rows false 1 [[.int .i64 u]])).get (.run HH.next) = some (.rows false 1 [[.int .i64 u]]) := by rw [Heap.get_add, if_pos rfl]
  have hya := hy.turns ta (fun _ _ => id)
  have hl' := rowsI_len ks
  obtain ⟨H', ea, hv', ta', _⟩ := hya.app1 (by' := 8) (Nat.le_trans tz.next ta.next) hxg rfl (by decide) (by rw [hl']; omega) (by rw [hl']; omega)
  rw [hl', Heap.next_add] at ea hv'
  have hR : rowsI ks ++ [[.int .i64 u]] = rowsI (ks ++ [u]) := by unfold rowsI; simp
  rw [hR] at hv'
  exact ⟨H', ea, hv', lst_away hya (tz.trans ta) (Nat.le_refl _) ta'⟩

theorem picks_lst {H0 H : Heap} {P : List Int} {v : V} (h : Lst H0 H 1 (rowsI P) v) (hP : P ≠ []) : ∃ p, v = .slice p P.length P.length 1 ∧ disk.PicksAt H p P disk.Z := by
  rcases h with ⟨e, _⟩ | ⟨k, _, rfl, hg, h1, h2⟩
  · cases P with
    | nil => exact absurd rfl hP
    | cons => cases e
  · rw [rowsI_len]
    refine ⟨_, rfl, ⟨fun _ => ⟨.run k, 0, false, _, rfl, h2, fun h => h, hg, fun i hi => ?_⟩⟩⟩
    unfold rowsI
    rw [Nat.zero_add, List.getElem?_map, List.getElem?_eq_getElem hi]; rfl

theorem benches_ok (H : Heap) {k : Nat} (hk : 1 ≤ k ∧ k ≤ 6) {lf : Nat} (hlf : 1000 < lf) (n : Nat) :
    ret (callS Try.prog S0 lf (n + 3) 9 [.int .i64 (k : Int)] H) fun v H' => Turns Z H H' ∧ ∃ b ds l c es q, v = .tuple [.ptr (some ⟨b, 0⟩), .ptr (some ⟨c, 0⟩), .bool true] ∧ disk.Rep false H' b ds 1 l (disk.newB (sizes k)) ∧ disk.Rep true H' c es 1 q (disk.newB (sizes k)) ∧ (∀ x, disk.BFoot b ds l x → ¬ H.Old x) ∧ (∀ x, disk.BFoot c es q x → ¬ H.Old x) ∧ (∀ x, disk.BFoot b ds l x → ¬ disk.BFoot c es q x) := by
  refine ret_call rfl c9_eq ?_
  simp only [c9, sy, tup, ↓reduceIte, Nat.reduceEqDiff, Nat.reduceAdd, Nat.reduceSub, Nat.reduceMul, Nat.reduceDiv, Nat.reduceMod, Nat.reduceLeDiff, Int.reduceBEq, reduceCtorEq]
  have hloop : ∀ t : T, t.getP (Tr.path 0) = some (.int .i64 (k : Int)) → t.getP (Tr.path 5) = some (.slice none 0 0 0) → t.getP (Tr.path 6) = some (.int .i64 0) →
      wp (loopF (runC (callS Try.prog S0 lf (n + 2)) lf c9_l0) lf ⟨t, H, []⟩) fun x s' => x = .ex 0 ∧ s'.d = [] ∧ ∃ y, s'.t.getP (Tr.path 5) = some y ∧ Lst H s'.H 1 (rowsI (List.replicate k 6)) y ∧ Turns Z H s'.H := by
    intro t q0 q5 q6
    refine wp_loopF (fun j s' => ∃ i : Nat, j = k - i ∧ i ≤ k ∧ s'.d = [] ∧ s'.t.getP (Tr.path 0) = some (.int .i64 (k : Int)) ∧ s'.t.getP (Tr.path 6) = some (.int .i64 (i : Int)) ∧ ∃ y, s'.t.getP (Tr.path 5) = some y ∧ Lst H s'.H 1 (rowsI (List.replicate i 6)) y ∧ Turns Z H s'.H) ?_ lf k _ ⟨0, rfl, by omega, rfl, q0, q6, _, q5, Lst.nil _ _ _, Turns.refl _ _⟩ (by omega)
    rintro j ⟨t, HH, d⟩ ⟨i, rfl, hi, hd, q0, q6, y, q5, hy, tz⟩
    dsimp only at hd q0 q6 q5 hy tz
    subst hd
    by_cases hlt : i < k
    · have hlt' : (i : Int) < (k : Int) := by omega
      have w2 : IntKind.i64.wrap ((i : Int) + 1) = ((i + 1 : Nat) : Int) := by rw [wrap_i64 (by omega)]; omega
      obtain ⟨H', ea, hv', tz'⟩ := appI hy tz (by simp; omega) 6
      rw [← List.replicate_succ'] at hv'
      simp only [c9_l0, q0, q5, q6, hlt', w2, ea, sy, tup, ↓reduceIte, Nat.reduceEqDiff, Nat.reduceAdd, Nat.reduceSub, Nat.reduceMul, Nat.reduceDiv, Nat.reduceMod, Nat.reduceLeDiff, Int.reduceBEq, reduceCtorEq]
      exact ⟨k - (i + 1), by omega, i + 1, rfl, by omega, trivial, trivial, by simp, _, rfl, hv', tz'⟩
    · have : i = k := by omega
      subst this
      simp only [c9_l0, q0, q5, q6, Int.lt_irrefl, sy, tup, ↓reduceIte, Nat.reduceEqDiff, Nat.reduceAdd, Nat.reduceSub, Nat.reduceMul, Nat.reduceDiv, Nat.reduceMod, Nat.reduceLeDiff, Int.reduceBEq, reduceCtorEq]
      exact ⟨trivial, trivial, y, rfl, hy, tz⟩
  refine wp_ctx (F := fun r => seqC _ _ _ (blockC _ r)) (hloop _ ?_ ?_ ?_) ?_
  · simp only [sy, tup, ↓reduceIte, Nat.reduceEqDiff, Nat.reduceAdd, Nat.reduceSub, Nat.reduceMul, Nat.reduceDiv, Nat.reduceMod, Nat.reduceLeDiff, Int.reduceBEq, reduceCtorEq]
  · simp only [sy, tup, ↓reduceIte, Nat.reduceEqDiff, Nat.reduceAdd, Nat.reduceSub, Nat.reduceMul, Nat.reduceDiv, Nat.reduceMod, Nat.reduceLeDiff, Int.reduceBEq, reduceCtorEq]
  · simp only [sy, tup, ↓reduceIte, Nat.reduceEqDiff, Nat.reduceAdd, Nat.reduceSub, Nat.reduceMul, Nat.reduceDiv, Nat.reduceMod, Nat.reduceLeDiff, Int.reduceBEq, reduceCtorEq]
  rintro x ⟨t, HH, d⟩ ⟨rfl, hd, y, q5, hy, tz⟩
  dsimp only at hd q5 hy tz
  subst hd
  obtain ⟨H1, ea, hv, t1⟩ := appI hy tz (by simp; omega) 50
  obtain ⟨p, ep, hP⟩ := picks_lst hv (by simp)
  have hok : disk.okSizes (sizes k) := by
    refine ⟨?_, ?_, ?_⟩
    · unfold sizes; simp
    · unfold sizes; simp; omega
    · intro x hx
      unfold sizes at hx
      simp at hx
      rcases hx with ⟨_, rfl⟩ | rfl <;> omega
  change disk.PicksAt H1 p (sizes k) disk.Z at hP
  rw [ep] at ea
  obtain ⟨v2, H2, e2, t2, hv2⟩ := disk.bnew_all H1 hP (pc := (sizes k).length) (po := 1) hlf n
  obtain ⟨v3, H3, e3, t3, hv3⟩ := disk.rbnew_all H2 (hP.turns t2) (pc := (sizes k).length) (po := 1) hlf n
  rcases hv2 with ⟨hno, _⟩ | ⟨_, b, ds, l, rfl, hR, hN⟩
  · exact absurd hok hno
  rcases hv3 with ⟨hno, _⟩ | ⟨_, c, es, q, rfl, hQ, hM⟩
  · exact absurd hok hno
  have e2' : callS Try.prog S0 lf (n + 2) 35 [.slice p (List.replicate k (6 : Int) ++ [50]).length (List.replicate k (6 : Int) ++ [50]).length 1] H1 = _ := e2
  have e3' : callS Try.prog S0 lf (n + 2) 36 [.slice p (List.replicate k (6 : Int) ++ [50]).length (List.replicate k (6 : Int) ++ [50]).length 1] H2 = _ := e3
  simp only [q5, ea, e2', e3', sy, tup, ↓reduceIte, Nat.reduceEqDiff, Nat.reduceAdd, Nat.reduceSub, Nat.reduceMul, Nat.reduceDiv, Nat.reduceMod, Nat.reduceLeDiff, Int.reduceBEq, reduceCtorEq]
  refine ⟨trivial, .inr trivial, _, rfl, (t1.trans t2).trans t3, b, ds, l, c, es, q, rfl, hR.turns t3, hQ, fun x hx o => hN x hx (o.mono t1.next), fun x hx o => hM x hx ((o.mono t1.next).mono t2.next), fun x hx hc => hM x hc (hR.foot_old x hx)⟩

theorem same_zero {H : Heap} {b1 b2 : Bk} {L M : List Nat} (h1 : ∀ i, i < 16 → loadAt H ⟨b1, 3 + i⟩ 1 = some [.int .u8 ((L.getD i 0 : Nat) : Int)]) (h2 : ∀ i, i < 16 → loadAt H ⟨b2, 3 + i⟩ 1 = some [.int .u8 ((L.getD i 0 : Nat) : Int)]) (lf n : Nat) (hlf : 17 < lf) : callS Try.prog S0 lf (n + 1) 57 [.slice (some ⟨b1, 3⟩) 16 16 0, .slice (some ⟨b2, 3⟩) 16 16 0] H = some (.v (.bool true), H) := by
  obtain ⟨v1, H', e, rfl, rfl⟩ : ret (callS Try.prog S0 lf (n + 1) 57 [.slice (some ⟨b1, 3⟩) 16 16 0, .slice (some ⟨b2, 3⟩) 16 16 0] H) fun v1 H' => v1 = .bool true ∧ H' = H := by
    refine ret_call rfl c57_eq ?_
    simp only [c57, sy, tup, ↓reduceIte, Nat.reduceEqDiff, Nat.reduceAdd, Nat.reduceSub, Nat.reduceMul, Nat.reduceDiv, Nat.reduceMod, Nat.reduceLeDiff, Int.reduceBEq, reduceCtorEq]
    have hloop : ∀ t : T, t.getP (Tr.path 0) = some (.slice (some ⟨b1, 3⟩) 16 16 0) → t.getP (Tr.path 1) = some (.slice (some ⟨b2, 3⟩) 16 16 0) → t.getP (Tr.path 5) = some (.int .i64 0) →
        wp (loopF (runC (callS Try.prog S0 lf n) lf c57_l0) lf ⟨t, H, []⟩) fun x s => x = .ex 0 ∧ s.d = [] ∧ s.H = H := by
      intro t q0 q1 q5
      refine wp_loopF (fun k s => ∃ i : Nat, k = 16 - i ∧ i ≤ 16 ∧ s.d = [] ∧ s.H = H ∧ s.t.getP (Tr.path 0) = some (.slice (some ⟨b1, 3⟩) 16 16 0) ∧ s.t.getP (Tr.path 1) = some (.slice (some ⟨b2, 3⟩) 16 16 0) ∧ s.t.getP (Tr.path 5) = some (.int .i64 (i : Int))) ?_ lf 16 _ ⟨0, rfl, by omega, rfl, rfl, q0, q1, q5⟩ (by omega)
      rintro k ⟨t, HH, d⟩ ⟨i, rfl, hi, hd, hH, q0, q1, q5⟩
      dsimp only at hd hH q0 q1 q5
      subst hd; subst hH
      by_cases hlt : i < 16
      · have hlt' : (i : Int) < ((16 : Nat) : Int) := by omega
        have hle' : i + 1 ≤ 16 := hlt
        have lk := h1 i hlt
        have lk' := h2 i hlt
        generalize L.getD i 0 = xx at lk lk'
        have w2 : IntKind.i64.wrap ((i : Int) + 1) = ((i + 1 : Nat) : Int) := by rw [wrap_i64 (by omega)]; omega
        simp only [c57_l0, q0, q1, q5, hlt', hle', w2, lk, lk', Nat.mul_one, sy, tup, ↓reduceIte, Nat.reduceEqDiff, Nat.reduceAdd, Nat.reduceSub, Nat.reduceMul, Nat.reduceDiv, Nat.reduceMod, Nat.reduceLeDiff, Int.reduceBEq, reduceCtorEq]
        rw [endD_ok (by kernel_rfl) (by kernel_rfl)]
        simp only [q0, q1, q5, hle', w2, lk, lk', Nat.mul_one, sy, tup, ↓reduceIte, Nat.reduceEqDiff, Nat.reduceAdd, Nat.reduceSub, Nat.reduceMul, Nat.reduceDiv, Nat.reduceMod, Nat.reduceLeDiff, Int.reduceBEq, reduceCtorEq]
        exact ⟨16 - (i + 1), by omega, i + 1, rfl, by omega, trivial, trivial, by simp [q0], by simp [q1], by simp⟩
      · have : i = 16 := by omega
        subst this
        have hnl : decide (((16 : Nat) : Int) < ((16 : Nat) : Int)) = false := rfl
        have hnl2 : decide (((16 : Nat) : Int) < 16) = false := rfl
        have hnl3 : decide ((16 : Int) < ((16 : Nat) : Int)) = false := rfl
        simp only [c57_l0, q0, q5, hnl, hnl2, hnl3, Nat.lt_irrefl, Int.lt_irrefl, sy, tup, ↓reduceIte, Nat.reduceEqDiff, Nat.reduceAdd, Nat.reduceSub, Nat.reduceMul, Nat.reduceDiv, Nat.reduceMod, Nat.reduceLeDiff, Int.reduceBEq, reduceCtorEq]
        exact ⟨trivial, trivial, trivial⟩
    refine wp_ctx (F := fun r => seqC _ _ _ (blockC _ r)) (hloop _ ?_ ?_ ?_) ?_
    · simp only [sy, tup, ↓reduceIte, Nat.reduceEqDiff, Nat.reduceAdd, Nat.reduceSub, Nat.reduceMul, Nat.reduceDiv, Nat.reduceMod, Nat.reduceLeDiff, Int.reduceBEq, reduceCtorEq]
    · simp only [sy, tup, ↓reduceIte, Nat.reduceEqDiff, Nat.reduceAdd, Nat.reduceSub, Nat.reduceMul, Nat.reduceDiv, Nat.reduceMod, Nat.reduceLeDiff, Int.reduceBEq, reduceCtorEq]
    · simp only [sy, tup, ↓reduceIte, Nat.reduceEqDiff, Nat.reduceAdd, Nat.reduceSub, Nat.reduceMul, Nat.reduceDiv, Nat.reduceMod, Nat.reduceLeDiff, Int.reduceBEq, reduceCtorEq]
    rintro x ⟨t, HH, d⟩ ⟨rfl, hd, hH⟩
    dsimp only at hd hH
    subst hd; subst hH
    simp only [sy, tup, ↓reduceIte, Nat.reduceEqDiff, Nat.reduceAdd, Nat.reduceSub, Nat.reduceMul, Nat.reduceDiv, Nat.reduceMod, Nat.reduceLeDiff, Int.reduceBEq, reduceCtorEq]
    simp
  exact e

theorem ros_all' {H : Heap} {b : Bk} {m s r c : Int} {g : Bool} {S : List Nat} (h : RosAt H b m s r S c g) {i : Nat} (hi : i < 16) : loadAt H ⟨b, 3 + i⟩ 1 = some [.int .u8 ((S.getD i 0 : Nat) : Int)] := by
  have hl := h.len
  have := ros_st h hi
  rw [Nat.mul_one] at this
  rw [this]
  rw [List.getD_eq_getElem?_getD, List.getElem?_eq_getElem (by omega)]
  rfl
theorem ros_r {H : Heap} {b : Bk} {m s r : Int} {S : List Nat} {c : Int} {g : Bool} (h : RosAt H b m s r S c g) : loadAt H ⟨b, 2⟩ 1 = some [.int .i64 r] := by rw [ros_cut h (by omega) (by omega)]; rfl
theorem ros_g {H : Heap} {b : Bk} {m s r : Int} {S : List Nat} {c : Int} {g : Bool} (h : RosAt H b m s r S c g) : loadAt H ⟨b, 20⟩ 1 = some [.bool g] := by
  rw [ros_cut h (by omega) (by omega)]
  unfold rcells
  have e : 20 = [V.int .i64 m, .int .i64 s, .int .i64 r].length + ((sts S).length + 1) := by rw [sts_len, h.len]; rfl
  rw [e, List.drop_length_add_append, List.drop_length_add_append]
  rfl

theorem rosters_ok (H : Heap) {m s r c : Int} {g : Bool} {S : List Nat} (hS : S.length = 16) (lf n : Nat) (hlf : 17 < lf) : ret (callS Try.prog S0 lf (n + 2) 25 [ros m s r S c g, ros m s r S c g] H) fun v H' => v = .bool true ∧ Turns Z H H' := by
  have t2 := (Turns.add Z H (.rows false 21 [rcells m s r S c g])).addm (.rows false 21 [rcells m s r S c g])
  have g1 : ((H.add (.rows false 21 [rcells m s r S c g])).add (.rows false 21 [rcells m s r S c g])).get (.run H.next) = some (.rows false 21 [rcells m s r S c g]) := by rw [mem_add (by simp), Heap.get_add, if_pos rfl]
  have g2 : ((H.add (.rows false 21 [rcells m s r S c g])).add (.rows false 21 [rcells m s r S c g])).get (.run (H.next + 1)) = some (.rows false 21 [rcells m s r S c g]) := by rw [Heap.get_add, if_pos (by simp)]
  generalize hH2 : (H.add (.rows false 21 [rcells m s r S c g])).add (.rows false 21 [rcells m s r S c g]) = H2 at *
  have r1 : RosAt H2 (.run H.next) m s r S c g := ⟨g1, hS⟩
  have r2 : RosAt H2 (.run (H.next + 1)) m s r S c g := ⟨g2, hS⟩
  have hw := r_width hS m s r c g
  have eS := same_zero (M := []) (fun i hi => ros_all' r1 hi) (fun i hi => ros_all' r2 hi) lf n hlf
  have bb : bounds 16 16 none none none = some (0, 16, 16) := rfl
  refine ret_call rfl c25_eq ?_
  simp only [c25, ros, hw, hH2, ros_m r1, ros_m r2, ros_s r1, ros_s r2, ros_r r1, ros_r r2, ros_c r1, ros_c r2, ros_g r1, ros_g r2, bb, eS, sy, tup, ↓reduceIte, Nat.reduceEqDiff, Nat.reduceAdd, Nat.reduceSub, Nat.reduceMul, Nat.reduceDiv, Nat.reduceMod, Nat.reduceLeDiff, Int.reduceBEq, reduceCtorEq]
  rw [endD_ok (by kernel_rfl) (by kernel_rfl)]
  simp only [sy, tup, ↓reduceIte, Nat.reduceEqDiff, Nat.reduceAdd, Nat.reduceSub, Nat.reduceMul, Nat.reduceDiv, Nat.reduceMod, Nat.reduceLeDiff, Int.reduceBEq, reduceCtorEq]
  exact ⟨trivial, .inr trivial, _, rfl, rfl, t2⟩

theorem found_ok (H : Heap) {ev id m s r c : Int} {g : Bool} {S : List Nat} (hS : S.length = 16) (lf n : Nat) (hlf : 17 < lf) : ret (callS Try.prog S0 lf (n + 3) 13 [fnd ev id m s r S c g, fnd ev id m s r S c g] H) fun v H' => v = .bool true ∧ Turns Z H H' := by
  have t2 := (Turns.add Z H (.rows false 23 [fcells ev id m s r S c g])).addm (.rows false 23 [fcells ev id m s r S c g])
  have g1 : ((H.add (.rows false 23 [fcells ev id m s r S c g])).add (.rows false 23 [fcells ev id m s r S c g])).get (.run H.next) = some (.rows false 23 [fcells ev id m s r S c g]) := by rw [mem_add (by simp), Heap.get_add, if_pos rfl]
  have g2 : ((H.add (.rows false 23 [fcells ev id m s r S c g])).add (.rows false 23 [fcells ev id m s r S c g])).get (.run (H.next + 1)) = some (.rows false 23 [fcells ev id m s r S c g]) := by rw [Heap.get_add, if_pos (by simp)]
  generalize hH2 : (H.add (.rows false 23 [fcells ev id m s r S c g])).add (.rows false 23 [fcells ev id m s r S c g]) = H2 at *
  have r1 : FndAt H2 (.run H.next) ev id m s r S c g := ⟨g1, hS⟩
  have r2 : FndAt H2 (.run (H.next + 1)) ev id m s r S c g := ⟨g2, hS⟩
  have hw := f_width hS ev id m s r c g
  obtain ⟨v, H3, e3, rfl, t3⟩ := rosters_ok H2 (m := m) (s := s) (r := r) (c := c) (g := g) hS lf n hlf
  unfold ros at e3
  refine ret_call rfl c13_eq ?_
  simp only [c13, fnd, hw, hH2, fnd_ev r1, fnd_ev r2, fnd_id r1, fnd_id r2, fnd_r r1, fnd_r r2, e3, sy, tup, ↓reduceIte, Nat.reduceEqDiff, Nat.reduceAdd, Nat.reduceSub, Nat.reduceMul, Nat.reduceDiv, Nat.reduceMod, Nat.reduceLeDiff, Int.reduceBEq, reduceCtorEq]
  exact ⟨trivial, .inr trivial, _, rfl, rfl, t2.trans t3⟩

end Go.Proofs.Ytejgheoandfikaa.draft


/-
  'GatherFits': its run.
-/
set_option linter.unusedVariables false
set_option linter.unusedSimpArgs false
set_option maxRecDepth 10000
namespace Go.Proofs.Ytejgheoandfikaa.disk
open Go.Am
theorem sect_new {P : List Int} {i : Nat} {z : Int} (h : P[i]? = some z) (h0 : 0 ≤ z) : (newB P).sectors (i : Int) = z := by
  have hi : i < P.length := (List.getElem?_eq_some_iff.1 h).1
  have hl : (newB P).l.length = P.length := by unfold newB; rw [List.length_map]
  unfold Bn.sectors Bn.tc
  rw [if_pos (by rw [hl]; unfold tcode; rw [if_pos (by omega)])]
  unfold Bn.dev newB
  simp only [Int.toNat_natCast]
  rw [List.getD_eq_getElem?_getD, List.getElem?_map, h]
  show (((List.replicate z.toNat 0).length : Nat) : Int) = _
  rw [List.length_replicate]
  omega
theorem Mine.owe {r : Bool} {H0 H : Heap} {b ds : Bk} {so : Nat} {l : List Dv} {B : Bn} (h : Mine r H0 H b ds so l B) {q : List (Option V × Option V)} (hq : ∀ p ∈ q, p.1 = p.2) : Mine r H0 (H.owe q) b ds so l B :=
  h.turns ((Turns.refl Z H).owe hq)
end Go.Proofs.Ytejgheoandfikaa.disk
namespace Go.Proofs.Ytejgheoandfikaa.draft
open Go.Am

noncomputable def c4_l0 : C := .seq (.seq (.reg [
 mv 23 8,
 mv 24 1,
 qo 25 (.p (lenF (tt 24))) [pp 24],
 qo 26 (.p (arF .lss (tt 23) (tt 25))) [pp 23, pp 25],
 mv 27 26,
 mg 28 8 27 true,
 qg 29 (.p (arF .lss (tt 28) (ii 40))) 27 true [pp 28],
 qo 30 (.p (pickF (tt 27) (tt 29) (.c (.bool false)))) [pp 27, pp 29]]) (
 .cond (tt 30) (.skip) (.exit 0))) (
 .seq (.block 1 (.regD [
 mv 33 5,
 mv 34 1,
 mv 35 8,
 qo 36 (.p (iaddrSF (tt 34) (tt 35) 93)) [pp 34, pp 35],
 qo 37 (.p (faddrF (tt 36) 0)) [pp 36],
 qo 38 (.r (loadF (tt 37) 1 .sc)) [pp 37],
 mv 39 1,
 mv 40 8,
 qo 41 (.p (iaddrSF (tt 39) (tt 40) 93)) [pp 39, pp 40],
 qo 42 (.p (faddrF (tt 41) 1)) [pp 41],
 qo 43 (.r (loadF (tt 42) 1 .sc)) [pp 42],
 mv 44 1,
 mv 45 8,
 qo 46 (.p (iaddrSF (tt 44) (tt 45) 93)) [pp 44, pp 45],
 qo 47 (.r (loadF (tt 46) 93 .ag)) [pp 46],
 qo 48 (.c (callF (ff 11) [(tt 47)])) [pp 47],
 qo 49 (.c (callF (ff 10) [(tt 33), (tt 38), (tt 43), (tt 48)])) [pp 33, pp 38, pp 43, pp 48]] [0, 0, 0, 6, 14, 30, 0, 0, 192, 448, 960, 0, 0, 6144, 14336, 30720, 65535])) (
 .reg [
 mv 31 8,
 qo 32 (.p (arF .add (tt 31) (ii 1))) [pp 31],
 mv 8 32]))
/-- ashlar/ashlarlaw22.GatherFits -/
noncomputable def c4 : CFn := ⟨[.tmp (pp 4)],
 .seq (.reg [
 qo 4 (.p (S.get (.c (.bool false)))) []]) (
 .seq (.reg [
 mv 13 0,
 qo 14 (.p (arF .rem (tt 13) (.c (.int .u8 4)))) [pp 13],
 qo 15 (.p (convF .i64 (tt 14))) [pp 14],
 qo 16 (.p (arF .add (ii 3) (tt 15))) [pp 15],
 qo 17 (.c (callF (ff 9) [(tt 16)])) [pp 16],
 mv 12 17,
 qo 18 (.p (extF (tt 12) 0)) [pp 12],
 qo 19 (.p (extF (tt 12) 1)) [pp 12],
 qo 20 (.p (extF (tt 12) 2)) [pp 12],
 mv 5 18,
 mv 6 19,
 mv 7 20]) (
 .seq (.seq (.reg [
 mv 21 7,
 qo 22 (.p (unF .not (tt 21))) [pp 21]]) (
 .cond (tt 22) (.seq (.reg [
 qo 4 (.p (S.get (.c (.bool false)))) []]) (
 .ret)) (.skip))) (
 .seq (.seq (.reg [
 qo 8 (.p (S.get (ii 0))) []]) (
 .block 0 (.loop c4_l0))) (
 .seq (.reg [
 mv 51 5,
 qo 52 (.c (callF (ff 12) [(tt 51)])) [pp 51],
 mv 50 52,
 qo 53 (.p (extF (tt 50) 0)) [pp 50],
 qo 54 (.p (extF (tt 50) 1)) [pp 50],
 qo 9 (.m (allocF 23 [.int .u64 0, .int .u64 0, .int .i64 0, .int .i64 0, .int .i64 0, .int .u8 0, .int .u8 0, .int .u8 0, .int .u8 0, .int .u8 0, .int .u8 0, .int .u8 0, .int .u8 0, .int .u8 0, .int .u8 0, .int .u8 0, .int .u8 0, .int .u8 0, .int .u8 0, .int .u8 0, .int .u8 0, .int .i64 0, .bool false])) [],
 qn (.a (storeF (tt 9) (tt 53) 23)) [pp 9, pp 53],
 mv 10 54]) (
 .seq (.seq (.reg [
 mv 55 10,
 qo 56 (.p (eqcF true false [.int .i64] (tt 55) (ii 0))) [pp 55]]) (
 .cond (tt 56) (.seq (.reg [
 mv 57 10,
 qo 58 (.p (eqcF false false [.int .i64] (tt 57) (ii 7))) [pp 57],
 mv 59 58,
 qg 60 (.r (loadF (tt 9) 23 .ag)) 59 true [pp 9],
 qg 61 (.p (buildF [.int .u64 0, .int .u64 0, .int .i64 0, .int .i64 0, .int .i64 0, .int .u8 0, .int .u8 0, .int .u8 0, .int .u8 0, .int .u8 0, .int .u8 0, .int .u8 0, .int .u8 0, .int .u8 0, .int .u8 0, .int .u8 0, .int .u8 0, .int .u8 0, .int .u8 0, .int .u8 0, .int .u8 0, .int .i64 0, .bool false] .ag [])) 59 true [],
 qg 62 (.c (callF (ff 13) [(tt 60), (tt 61)])) 59 true [pp 60, pp 61],
 qo 63 (.p (pickF (tt 59) (tt 62) (.c (.bool false)))) [pp 59, pp 62],
 mv 64 63,
 qg 65 (.c (callF (ff 14) [])) 64 true [],
 qo 66 (.p (pickF (tt 64) (tt 65) (.c (.bool false)))) [pp 64, pp 65],
 mv 4 66]) (
 .ret)) (.skip))) (
 .seq (.reg [
 qo 67 (.p (faddrF (tt 9) 2)) [pp 9],
 qo 68 (.p (faddrF (tt 67) 0)) [pp 67],
 qo 69 (.r (loadF (tt 68) 3 .ag)) [pp 68],
 qo 11 (.m (allocF 3 [.int .i64 0, .int .i64 0, .int .i64 0])) [],
 qn (.a (storeF (tt 11) (tt 69) 3)) [pp 11, pp 69]]) (
 .seq (.regD [
 qo 70 (.p (faddrF (tt 9) 0)) [pp 9],
 qo 71 (.r (loadF (tt 70) 1 .sc)) [pp 70],
 qo 72 (.p (arF .geq (tt 71) (.c (.int .u64 1)))) [pp 71],
 mv 73 72,
 qg 74 (.p (faddrF (tt 9) 0)) 73 true [pp 9],
 qg 75 (.r (loadF (tt 74) 1 .sc)) 73 true [pp 74],
 qg 76 (.p (arF .leq (tt 75) (.c (.int .u64 2305843009213693952)))) 73 true [pp 75],
 qo 77 (.p (pickF (tt 73) (tt 76) (.c (.bool false)))) [pp 73, pp 76],
 mv 78 77,
 qg 79 (.p (faddrF (tt 9) 1)) 78 true [pp 9],
 qg 80 (.r (loadF (tt 79) 1 .sc)) 78 true [pp 79],
 qg 81 (.p (eqcF true false [.int .u64] (tt 80) (.c (.int .u64 0)))) 78 true [pp 80],
 qo 82 (.p (pickF (tt 78) (tt 81) (.c (.bool false)))) [pp 78, pp 81],
 mv 83 82,
 qg 84 (.p (faddrF (tt 9) 2)) 83 true [pp 9],
 qg 85 (.r (loadF (tt 84) 21 .ag)) 83 true [pp 84],
 qg 86 (.c (callF (ff 15) [(tt 85)])) 83 true [pp 85],
 qo 87 (.p (pickF (tt 83) (tt 86) (.c (.bool false)))) [pp 83, pp 86],
 mv 88 87,
 qg 89 (.p (faddrF (tt 11) 0)) 88 true [pp 11],
 qg 90 (.r (loadF (tt 89) 1 .sc)) 88 true [pp 89],
 mg 91 5 88 true,
 qg 92 (.c (callF (ff 16) [(tt 91)])) 88 true [pp 91],
 qg 93 (.p (arF .sub (tt 92) (ii 1))) 88 true [pp 92],
 qg 94 (.p (eqcF false false [.int .i64] (tt 90) (tt 93))) 88 true [pp 90, pp 93],
 qo 95 (.p (pickF (tt 88) (tt 94) (.c (.bool false)))) [pp 88, pp 94],
 mv 96 95,
 qg 97 (.p (faddrF (tt 11) 1)) 96 true [pp 11],
 qg 98 (.r (loadF (tt 97) 1 .sc)) 96 true [pp 97],
 qg 99 (.p (arF .leq (tt 98) (ii 4))) 96 true [pp 98],
 qo 100 (.p (pickF (tt 96) (tt 99) (.c (.bool false)))) [pp 96, pp 99],
 mv 101 100,
 qg 102 (.p (faddrF (tt 11) 2)) 101 true [pp 11],
 qg 103 (.r (loadF (tt 102) 1 .sc)) 101 true [pp 102],
 qg 104 (.p (arF .leq (tt 103) (ii 40))) 101 true [pp 103],
 qo 105 (.p (pickF (tt 101) (tt 104) (.c (.bool false)))) [pp 101, pp 104],
 mv 106 105,
 qg 107 (.c (callF (ff 14) [])) 106 true [],
 qo 108 (.p (pickF (tt 106) (tt 107) (.c (.bool false)))) [pp 106, pp 107],
 mv 4 108] [0, 1, 3, 7, 15, 31, 63, 127, 255, 511, 1023, 2047, 4095, 8191, 16383, 32767, 65535, 131071, 262143, 524287, 1048575, 524287, 2621439, 6815743, 16777215, 33554431, 67108863, 134217727, 268435455, 536870911, 1073741823, 2147483647, 4294967295, 8589934591, 17179869183, 34359738367, 68719476735, 137438953471, 274877906943, 549755813887]) (
 .ret))))))))⟩
theorem c4_eq : fnOf Try.prog 4 = some c4 := by kernel_rfl


theorem glives_ok (lf n : Nat) (H : Heap) : callS Try.prog S0 lf (n + 1) 14 [] H = some (.v (.bool true), H) := rfl

theorem sec_last {k : Nat} {B : disk.Bn} (h : disk.Same (disk.newB (sizes k)) B) : B.sectors (k : Int) = 50 := by
  rw [h.sec]
  refine disk.sect_new ?_ (by decide)
  unfold sizes
  rw [List.getElem?_append_right (by simp)]
  simp
theorem sec_other {k : Nat} {B : disk.Bn} (h : disk.Same (disk.newB (sizes k)) B) {d : Nat} (hd : d < k) : B.sectors (d : Int) = 6 := by
  rw [h.sec]
  refine disk.sect_new ?_ (by decide)
  unfold sizes
  rw [List.getElem?_append_left (by simpa using hd), List.getElem?_replicate, if_pos hd]

theorem gatherfits_run (H : Heap) {lp : Option Ptr} {lc : Nat} {A : List SPut} (hA : SPutsAt H lp A) {u : Nat} (hu : u < 256) {lf : Nat} (hlf : 1000 < lf) (n : Nat) :
    ret (callS Try.prog S0 lf (n + 10) 4 [.int .u8 (u : Int), .slice lp A.length lc 0] H) fun v H' => v = .bool true ∧ Turns Z H H' := by
  have hL : ∀ H, callS Try.prog S0 lf (n + 9) 14 [] H = some (.v (.bool true), H) := fun H => glives_ok lf (n + 8) H
  have r4 : arith .rem (.int .u8 (u : Int)) (.int .u8 4) = some (.int .u8 ((u % 4 : Nat) : Int)) := rem_u8 u 4 (by decide)
  have hu4 : u % 4 < 4 := Nat.mod_lt _ (by decide)
  generalize u % 4 = w at *
  obtain ⟨k, hk⟩ : ∃ k, k = 3 + w := ⟨_, rfl⟩
  have w1 : IntKind.i64.wrap (w : Int) = (w : Int) := wrap_i64 (by omega)
  have w2 : IntKind.i64.wrap (3 + (w : Int)) = (k : Int) := by rw [wrap_i64 (by omega)]; omega
  obtain ⟨v1, H1, e1, t1, b, ds, l, c, es, q, rfl, hR, hQ, hN, hM, hD⟩ := benches_ok H (k := k) (by omega) hlf (n + 6)
  change callS Try.prog S0 lf (n + 9) _ _ _ = _ at e1
  have hok : disk.Bok 0 (disk.newB (sizes k)) := by
    refine disk.okNew ⟨?_, ?_, ?_⟩
    · unfold sizes; simp
    · unfold sizes; simp; omega
    · intro x hx
      unfold sizes at hx
      simp at hx
      rcases hx with ⟨_, rfl⟩ | rfl <;> omega
  have hlen0 : (disk.newB (sizes k)).l.length = k + 1 := by unfold disk.newB sizes; simp
  refine ret_call rfl c4_eq ?_
  simp only [c4, r4, w1, w2, e1, sy, tup, ↓reduceIte, Nat.reduceEqDiff, Nat.reduceAdd, Nat.reduceSub, Nat.reduceMul, Nat.reduceDiv, Nat.reduceMod, Nat.reduceLeDiff, Int.reduceBEq, reduceCtorEq]
  have hloop : ∀ t : T, t.getP (Tr.path 1) = some (.slice lp A.length lc 0) → t.getP (Tr.path 5) = some (.ptr (some ⟨b, 0⟩)) → t.getP (Tr.path 8) = some (.int .i64 0) →
      wp (loopF (runC (callS Try.prog S0 lf (n + 9)) lf c4_l0) lf ⟨t, H1, []⟩) fun x s' => x = .ex 0 ∧ s'.d = [] ∧ s'.t.getP (Tr.path 5) = some (.ptr (some ⟨b, 0⟩)) ∧ ∃ i l B, i ≤ 40 ∧ disk.Mine false H s'.H b ds 1 l B ∧ disk.Bok i B ∧ disk.Same (disk.newB (sizes k)) B := by
    intro t q1 q5 q8
    refine wp_loopF (fun j s' => ∃ i l B, i + j = 40 ∧ s'.d = [] ∧ s'.t.getP (Tr.path 1) = some (.slice lp A.length lc 0) ∧ s'.t.getP (Tr.path 5) = some (.ptr (some ⟨b, 0⟩)) ∧ s'.t.getP (Tr.path 8) = some (.int .i64 ((i : Nat) : Int)) ∧ disk.Mine false H s'.H b ds 1 l B ∧ disk.Bok i B ∧ disk.Same (disk.newB (sizes k)) B) ?_ lf 40 _ ⟨0, l, _, rfl, rfl, q1, q5, q8, ⟨hR, t1, hN⟩, hok, disk.Same.refl _⟩ (by omega)
    clear q1 q5 q8 t
    rintro j ⟨t, HH, dd⟩ ⟨i, l, B, hi, rfl, q1, q5, q8, hm, ok, sm⟩
    dsimp only at q1 q5 q8 hm
    by_cases hiA : i < A.length
    · cases j with
      | zero =>
        have hi : i = 40 := by omega
        subst hi
        have hg : ¬ ((40 : Int) < 40) := by decide
        have q8 : t.getP (Tr.path 8) = some (.int .i64 40) := q8
        have hiA' : (40 : Int) < (A.length : Int) := by omega
        simp only [c4_l0, q1, q5, q8, hiA', hg, sy, tup, ↓reduceIte, Nat.reduceEqDiff, Nat.reduceAdd, Nat.reduceSub, Nat.reduceMul, Nat.reduceDiv, Nat.reduceMod, Nat.reduceLeDiff, Int.reduceBEq, reduceCtorEq]
        exact ⟨trivial, trivial, trivial, 40, l, B, Nat.le_refl _, hm, ok, sm⟩
      | succ j =>
        have h40 : (i : Int) < 40 := by omega
        have hi1 : i + 1 ≤ A.length := hiA
        obtain ⟨vb, HB, eb, tb, rfl⟩ := pblk_ok HH A[i] (hA.ok A[i] (List.getElem_mem _)) (lf := lf) (by omega) (n + 2)
        change callS Try.prog S0 lf (n + 9) _ _ _ = _ at eb
        have hmb := hm.turns tb
        obtain ⟨x, hpx, la, lD, lN⟩ := hA.load hm.t hiA
        obtain ⟨x2, hpx2, _, lDb, lNb⟩ := hA.load hmb.t hiA
        have hx2 : x2 = x := by rw [hpx] at hpx2; cases hpx2; rfl
        subst hx2
        have hne : l ≠ [] := hm.ne (by rw [sm.len, hlen0]; omega)
        have hst := ok.st
        obtain ⟨vw, HW, ew, rfl, l', hnx⟩ := disk.bwrite_all hmb.rep hne (ok.good (by omega)) ok.ar ⟨hst.1, by omega⟩ A[i].D A[i].N A[i].blk hlf (n + 3)
        change callS Try.prog S0 lf (n + 9) _ _ _ = _ at ew
        have hmw := hmb.next hnx
        have hwr : IntKind.i64.wrap ((i : Int) + 1) = (i : Int) + 1 := wrap_i64 (by omega)
        rw [hpx] at q1
        have hwid : unc .ag A[i].row = some (.agg A[i].row) := rfl
        have okw := ok.write A[i].D A[i].N A[i].blk
        have smw := sm.trans (disk.same_write B A[i].D A[i].N A[i].blk)
        generalize A[i].row = R at la eb hwid
        generalize A[i].blk = X at *
        generalize A[i].D = DD at *
        generalize A[i].N = NN at *
        obtain ⟨q, hqd⟩ : ∃ q : List (Option V × Option V), q = [(loadF (.t (Tr.path 37)) 1 .sc (Tr.setP (Tr.path 37) (.ptr (some ⟨x2, i * 93⟩)) .e) HH, some (.int .i64 DD)), (loadF (.t (Tr.path 37)) 1 .sc (Tr.setP (Tr.path 37) (.ptr (some ⟨x2, i * 93⟩)) .e) HB, some (.int .i64 DD)),
          (loadF (.t (Tr.path 42)) 1 .sc (Tr.setP (Tr.path 42) (.ptr (some ⟨x2, i * 93 + 1⟩)) .e) HH, some (.int .i64 NN)), (loadF (.t (Tr.path 42)) 1 .sc (Tr.setP (Tr.path 42) (.ptr (some ⟨x2, i * 93 + 1⟩)) .e) HB, some (.int .i64 NN))] := ⟨_, rfl⟩
        have hq : ∀ p ∈ q, p.1 = p.2 := by
          rw [hqd]
          intro p hp
          simp only [List.mem_cons, List.not_mem_nil, or_false] at hp
          rcases hp with rfl | rfl | rfl | rfl
          · simp only [lD, sy, tup, ↓reduceIte, Nat.reduceEqDiff, Nat.reduceAdd, Nat.reduceSub, Nat.reduceMul, Nat.reduceDiv, Nat.reduceMod, Nat.reduceLeDiff, Int.reduceBEq, reduceCtorEq]
          · simp only [lDb, sy, tup, ↓reduceIte, Nat.reduceEqDiff, Nat.reduceAdd, Nat.reduceSub, Nat.reduceMul, Nat.reduceDiv, Nat.reduceMod, Nat.reduceLeDiff, Int.reduceBEq, reduceCtorEq]
          · simp only [lN, sy, tup, ↓reduceIte, Nat.reduceEqDiff, Nat.reduceAdd, Nat.reduceSub, Nat.reduceMul, Nat.reduceDiv, Nat.reduceMod, Nat.reduceLeDiff, Int.reduceBEq, reduceCtorEq]
          · simp only [lNb, sy, tup, ↓reduceIte, Nat.reduceEqDiff, Nat.reduceAdd, Nat.reduceSub, Nat.reduceMul, Nat.reduceDiv, Nat.reduceMod, Nat.reduceLeDiff, Int.reduceBEq, reduceCtorEq]
        simp only [c4_l0, q1, q5, q8, hiA, h40, hi1, la, lD, lN, eb, ew, hwid, hwr, sy, tup, ↓reduceIte, Nat.reduceEqDiff, Nat.reduceAdd, Nat.reduceSub, Nat.reduceMul, Nat.reduceDiv, Nat.reduceMod, Nat.reduceLeDiff, Int.reduceBEq, reduceCtorEq]
        rw [endD_q (q := q) (by kernel_rfl) (by rw [hqd]; kernel_rfl)]
        simp only [q1, q5, q8, hwr, sy, tup, ↓reduceIte, Nat.reduceEqDiff, Nat.reduceAdd, Nat.reduceSub, Nat.reduceMul, Nat.reduceDiv, Nat.reduceMod, Nat.reduceLeDiff, Int.reduceBEq, reduceCtorEq]
        exact ⟨j, Nat.lt_succ_self j, i + 1, l', _, by omega, trivial, by rw [hpx], trivial, rfl, hmw.owe hq, okw, smw⟩
    · have hg : ¬ (i < A.length) := hiA
      simp only [c4_l0, q1, q5, q8, hg, sy, tup, ↓reduceIte, Nat.reduceEqDiff, Nat.reduceAdd, Nat.reduceSub, Nat.reduceMul, Nat.reduceDiv, Nat.reduceMod, Nat.reduceLeDiff, Int.reduceBEq, reduceCtorEq]
      exact ⟨trivial, trivial, trivial, i, l, B, by omega, hm, ok, sm⟩
  refine wp_ctx (F := fun r => seqC _ _ _ (blockC _ r)) (hloop _ ?_ ?_ ?_) ?_
  · simp only [sy, tup, ↓reduceIte, Nat.reduceEqDiff, Nat.reduceAdd, Nat.reduceSub, Nat.reduceMul, Nat.reduceDiv, Nat.reduceMod, Nat.reduceLeDiff, Int.reduceBEq, reduceCtorEq]
  · simp only [sy, tup, ↓reduceIte, Nat.reduceEqDiff, Nat.reduceAdd, Nat.reduceSub, Nat.reduceMul, Nat.reduceDiv, Nat.reduceMod, Nat.reduceLeDiff, Int.reduceBEq, reduceCtorEq]
  · simp only [sy, tup, ↓reduceIte, Nat.reduceEqDiff, Nat.reduceAdd, Nat.reduceSub, Nat.reduceMul, Nat.reduceDiv, Nat.reduceMod, Nat.reduceLeDiff, Int.reduceBEq, reduceCtorEq]
  clear hloop hR hQ hN hM hD hok e1
  rintro x ⟨t, HL, d⟩ ⟨rfl, hd, q5, i, l, B, hi, hm, ok, sm⟩
  dsimp only at hd q5 hm
  subst hd
  have hBl : B.l.length = k + 1 := by rw [sm.len, hlen0]
  have hll : l.length = k + 1 := by rw [hm.rep.len, hBl]
  have hne : l ≠ [] := hm.ne (by omega)
  have hdk := (sm.dk rfl rfl).2
  obtain ⟨v, HG, eG, tG, hv⟩ := look_ok hm.rep hne (ok.good (by omega)) hdk (by omega) hlf n
  change callS Try.prog S0 lf (n + 9) _ _ _ = _ at eG
  have tHG := hm.t.trans tG
  rcases hv with ⟨_, rfl⟩ | ⟨C, hC, rfl⟩
  · -- nothing is found
    have hzf : zf = [.int .u64 0, .int .u64 0, .int .i64 0, .int .i64 0, .int .i64 0, .int .u8 0, .int .u8 0, .int .u8 0, .int .u8 0, .int .u8 0, .int .u8 0, .int .u8 0, .int .u8 0, .int .u8 0, .int .u8 0, .int .u8 0, .int .u8 0, .int .u8 0, .int .u8 0, .int .u8 0, .int .u8 0, .int .i64 0, .bool false] := rfl
    have hga : (HG.add (.rows false 23 [zf])).get (.run HG.next) = some (.rows false 23 [zf]) := by rw [Heap.get_add, if_pos rfl]
    have sA : storeAt (HG.add (.rows false 23 [zf])) ⟨.run HG.next, 0⟩ zf = some ((HG.add (.rows false 23 [zf])).set (.run HG.next) (.rows false 23 [zf])) := storeAt_eq hga (r := zf) (r' := zf) rfl (put_ff (by simp) (by simp) _ _ _ _ _ _ _ _ _ _ _ _ _ _)
    have tA : Turns Z HG ((HG.add (.rows false 23 [zf])).set (.run HG.next) (.rows false 23 [zf])) := (Turns.add Z HG _).setnew (Nat.le_refl _) _
    have lA : loadAt ((HG.add (.rows false 23 [zf])).set (.run HG.next) (.rows false 23 [zf])) ⟨.run HG.next, 0⟩ 23 = some zf := by
      rw [loadAt_eq (b := .run HG.next) (r := zf) (by rw [Heap.get_set, if_pos rfl]) rfl]
      exact (cut_thin (f_thin 0 0 0 0 0 (List.replicate 16 0) 0 false) (by show 0 + 23 ≤ 23; omega)).trans rfl
    obtain ⟨HA, hHA⟩ : ∃ K, (HG.add (.rows false 23 [zf])).set (.run HG.next) (.rows false 23 [zf]) = K := ⟨_, rfl⟩
    rw [hHA] at sA tA lA
    obtain ⟨vf, HF, eF, rfl, tF⟩ := found_ok HA (ev := 0) (id := 0) (m := 0) (s := 0) (r := 0) (c := 0) (g := false) (S := List.replicate 16 0) (by simp) lf (n + 6) (by omega)
    change callS Try.prog S0 lf (n + 9) _ [.agg zf, .agg zf] _ = _ at eF
    have wz : width zf = 23 := f_width (by simp) _ _ _ _ _ _ _
    rw [hzf] at eG sA lA eF wz
    have b7 : ((7 : Int) == 0) = false := rfl
    simp only [q5, eG, sA, lA, wz, b7, eF, hL, sy, tup, ↓reduceIte, Nat.reduceEqDiff, Nat.reduceAdd, Nat.reduceSub, Nat.reduceMul, Nat.reduceDiv, Nat.reduceMod, Nat.reduceLeDiff, Int.reduceBEq, reduceCtorEq]
    exact ⟨trivial, .inr trivial, _, rfl, rfl, (tHG.trans tA).trans tF⟩
  · obtain ⟨d, hd, hgC⟩ := bestC_ok hC
    obtain ⟨c1, c2, c3, c4, c5⟩ := gC_ok hgC
    obtain ⟨s1, s2, s3, s4, s5⟩ := isSup_of c1
    obtain ⟨f1, f2, f3, f4⟩ := s3
    have hpos := ev_pos c1
    have hfl := lostS_fine (B := B) (N := l.length) f4 (fld C 8 1) (Int.le_refl _)
    obtain ⟨x1, x2, x3⟩ := c3
    have hf : foundC B l.length C = fnd (sealN C) (fld C 0 8) (fld C 8 1) (fld C 9 2) (fld C 11 2) (lostS B l.length C (fld C 8 1)).1 ((lostS B l.length C (fld C 8 1)).2 : Int) (((fld C 20 1 : Nat) : Int) == 1) := rfl
    have hSl := lostS_len B l.length C (fld C 8 1)
    rw [hf] at eG
    obtain ⟨g1, _⟩ := f4
    obtain ⟨m1, _, _⟩ := may_t g1
    have hM : fld C 8 1 = k := by omega
    have hS4 : ((fld C 9 2 : Nat) : Int) ≤ 4 := by
      have := x3 0 (by omega)
      rw [show (0 : Int) = ((0 : Nat) : Int) from rfl, sec_other sm (show 0 < k by omega)] at this
      omega
    have hR4 : ((fld C 11 2 : Nat) : Int) ≤ 40 := by
      rw [hM, sec_last sm] at x2
      omega
    generalize (lostS B l.length C (fld C 8 1)).1 = S at *
    generalize ((lostS B l.length C (fld C 8 1)).2 : Int) = cc at *
    generalize (((fld C 20 1 : Nat) : Int) == 1) = gg at *
    generalize fld C 8 1 = M at *
    generalize fld C 9 2 = St at *
    generalize fld C 11 2 = Ri at *
    generalize fld C 0 8 = Id at *
    generalize sealN C = Ev at *
    have hzf : zf = [.int .u64 0, .int .u64 0, .int .i64 0, .int .i64 0, .int .i64 0, .int .u8 0, .int .u8 0, .int .u8 0, .int .u8 0, .int .u8 0, .int .u8 0, .int .u8 0, .int .u8 0, .int .u8 0, .int .u8 0, .int .u8 0, .int .u8 0, .int .u8 0, .int .u8 0, .int .u8 0, .int .u8 0, .int .i64 0, .bool false] := rfl
    have hga : (HG.add (.rows false 23 [zf])).get (.run HG.next) = some (.rows false 23 [zf]) := by rw [Heap.get_add, if_pos rfl]
    have sA : storeAt (HG.add (.rows false 23 [zf])) ⟨.run HG.next, 0⟩ (fcells Ev Id M St Ri S cc gg) = some ((HG.add (.rows false 23 [zf])).set (.run HG.next) (.rows false 23 [fcells Ev Id M St Ri S cc gg])) := storeAt_eq hga (r := zf) (r' := fcells Ev Id M St Ri S cc gg) rfl (put_ff (by simp) hSl _ _ _ _ _ _ _ _ _ _ _ _ _ _)
    have tA : Turns Z HG ((HG.add (.rows false 23 [zf])).set (.run HG.next) (.rows false 23 [fcells Ev Id M St Ri S cc gg])) := (Turns.add Z HG _).setnew (Nat.le_refl _) _
    have fA : FndAt ((HG.add (.rows false 23 [zf])).set (.run HG.next) (.rows false 23 [fcells Ev Id M St Ri S cc gg])) (.run HG.next) Ev Id M St Ri S cc gg := ⟨by rw [Heap.get_set, if_pos rfl], hSl⟩
    have nA : ((HG.add (.rows false 23 [zf])).set (.run HG.next) (.rows false 23 [fcells Ev Id M St Ri S cc gg])).next = HG.next + 1 := by simp
    rw [hzf] at sA tA fA nA
    obtain ⟨HA, hHA⟩ : ∃ K, K = (HG.add (.rows false 23 [[V.int .u64 0, .int .u64 0, .int .i64 0, .int .i64 0, .int .i64 0, .int .u8 0, .int .u8 0, .int .u8 0, .int .u8 0, .int .u8 0, .int .u8 0, .int .u8 0, .int .u8 0, .int .u8 0, .int .u8 0, .int .u8 0, .int .u8 0, .int .u8 0, .int .u8 0, .int .u8 0, .int .u8 0, .int .i64 0, .bool false]])).set (.run HG.next) (.rows false 23 [fcells Ev Id M St Ri S cc gg]) := ⟨_, rfl⟩
    rw [← hHA] at sA tA fA nA
    have wf := f_width hSl Ev Id M St Ri cc gg
    have lG := fnd_g fA
    have hgb : (HA.add (.rows false 3 [[.int .i64 0, .int .i64 0, .int .i64 0]])).get (.run HA.next) = some (.rows false 3 [[.int .i64 0, .int .i64 0, .int .i64 0]]) := by rw [Heap.get_add, if_pos rfl]
    have sB : storeAt (HA.add (.rows false 3 [[.int .i64 0, .int .i64 0, .int .i64 0]])) ⟨.run HA.next, 0⟩ [.int .i64 M, .int .i64 St, .int .i64 Ri] = some ((HA.add (.rows false 3 [[.int .i64 0, .int .i64 0, .int .i64 0]])).set (.run HA.next) (.rows false 3 [[.int .i64 M, .int .i64 St, .int .i64 Ri]])) := storeAt_eq hgb (r := [.int .i64 0, .int .i64 0, .int .i64 0]) (r' := [.int .i64 M, .int .i64 St, .int .i64 Ri]) rfl rfl
    have tB : Turns Z HA ((HA.add (.rows false 3 [[.int .i64 0, .int .i64 0, .int .i64 0]])).set (.run HA.next) (.rows false 3 [[.int .i64 M, .int .i64 St, .int .i64 Ri]])) := (Turns.add Z HA _).setnew (Nat.le_refl _) _
    have gB : ((HA.add (.rows false 3 [[.int .i64 0, .int .i64 0, .int .i64 0]])).set (.run HA.next) (.rows false 3 [[.int .i64 M, .int .i64 St, .int .i64 Ri]])).get (.run HA.next) = some (.rows false 3 [[.int .i64 M, .int .i64 St, .int .i64 Ri]]) := by rw [Heap.get_set, if_pos rfl]
    have nB : ((HA.add (.rows false 3 [[.int .i64 0, .int .i64 0, .int .i64 0]])).set (.run HA.next) (.rows false 3 [[.int .i64 M, .int .i64 St, .int .i64 Ri]])).next = HA.next + 1 := by simp
    obtain ⟨HB, hHB⟩ : ∃ K, (HA.add (.rows false 3 [[.int .i64 0, .int .i64 0, .int .i64 0]])).set (.run HA.next) (.rows false 3 [[.int .i64 M, .int .i64 St, .int .i64 Ri]]) = K := ⟨_, rfl⟩
    rw [hHB] at sB tB gB nB
    have fB : FndAt HB (.run HG.next) Ev Id M St Ri S cc gg := fA.turns tB (by show _ < _; omega)
    have lE := fnd_ev fB
    have lI := fnd_id fB
    have lR := fnd_r fB
    obtain ⟨vm, HM, eM, ⟨z, rfl, hz⟩, tM⟩ := rosmay_ok HB (m := M) (s := St) (r := Ri) (c := cc) (g := gg) hSl lf (n + 6) (by omega)
    have hz1 : z = true := hz.2 hfl
    subst hz1
    unfold ros at eM
    change callS Try.prog S0 lf (n + 9) _ _ _ = _ at eM
    have tGM := (tA.trans tB).trans tM
    have eD : callS Try.prog S0 lf (n + 9) _ _ HM = _ := bench_devs ((hm.rep.turns tG).turns tGM) hne lf (n + 7)
    have gM : HM.get (.run HA.next) = some (.rows false 3 [[.int .i64 M, .int .i64 St, .int .i64 Ri]]) := (tM.same _ (by show _ < _; omega) (fun h => h)).trans gB
    have k0 : loadAt HM ⟨.run HA.next, 0⟩ 1 = some [.int .i64 M] := by rw [loadAt_eq gM rfl]; rfl
    have k1 : loadAt HM ⟨.run HA.next, 1⟩ 1 = some [.int .i64 St] := by rw [loadAt_eq gM rfl]; rfl
    have k2 : loadAt HM ⟨.run HA.next, 2⟩ 1 = some [.int .i64 Ri] := by rw [loadAt_eq gM rfl]; rfl
    have y1 : (1 : Int) ≤ ((Ev : Nat) : Int) := by omega
    have y2 : ((Ev : Nat) : Int) ≤ 2305843009213693952 := by omega
    have y3 : (((Id : Nat) : Int) == 0) = false := by simpa using f1
    have y4 : IntKind.i64.wrap ((l.length : Int) - 1) = (M : Int) := by rw [wrap_i64 (by omega)]; omega
    obtain ⟨q, hqd⟩ : ∃ q : List (Option V × Option V), q = [(loadF (.t (Tr.path 89)) 1 .sc (Tr.setP (Tr.path 89) (.ptr (some ⟨.run HA.next, 0⟩)) .e) HM, some (.int .i64 (M : Int))), (loadF (.t (Tr.path 89)) 1 .sc (Tr.setP (Tr.path 89) (.ptr (some ⟨.run HA.next, 0⟩)) .e) HM, some (.int .i64 (M : Int)))] := ⟨_, rfl⟩
    have hq : ∀ p ∈ q, p.1 = p.2 := by
      rw [hqd]
      intro p hp
      simp only [List.mem_cons, List.not_mem_nil, or_false] at hp
      rcases hp with rfl | rfl
      · simp only [k0, sy, tup, ↓reduceIte, Nat.reduceEqDiff, Nat.reduceAdd, Nat.reduceSub, Nat.reduceMul, Nat.reduceDiv, Nat.reduceMod, Nat.reduceLeDiff, Int.reduceBEq, reduceCtorEq]
      · simp only [k0, sy, tup, ↓reduceIte, Nat.reduceEqDiff, Nat.reduceAdd, Nat.reduceSub, Nat.reduceMul, Nat.reduceDiv, Nat.reduceMod, Nat.reduceLeDiff, Int.reduceBEq, reduceCtorEq]
    unfold fnd at eG
    simp only [q5, eG, sA, wf, lG, sB, lE, lI, lR, y1, y2, y3, y4, eM, eD, k0, k1, k2, hS4, hR4, hL, sy, tup, ↓reduceIte, Nat.reduceEqDiff, Nat.reduceAdd, Nat.reduceSub, Nat.reduceMul, Nat.reduceDiv, Nat.reduceMod, Nat.reduceLeDiff, Int.reduceBEq, reduceCtorEq]
    rw [endD_q (q := q) (by kernel_rfl) (by rw [hqd]; kernel_rfl)]
    simp only [sy, tup, ↓reduceIte, Nat.reduceEqDiff, Nat.reduceAdd, Nat.reduceSub, Nat.reduceMul, Nat.reduceDiv, Nat.reduceMod, Nat.reduceLeDiff, Int.reduceBEq, reduceCtorEq]
    exact ⟨trivial, .inr trivial, _, rfl, rfl, ((tHG.trans tGM)).owe hq⟩

end Go.Proofs.Ytejgheoandfikaa.draft

