import Derived.Test.YtejgheoandfikaaGreatRSup
import Derived.Test.YtejgheoandfikaaGreatRef
import Derived.Test.YtejgheoandfikaaGreatGather
import Derived.Test.YtejgheoandfikaaGreatAmList
import Derived.Test.YtejgheoandfikaaGreatRGets
set_option linter.unusedVariables false
set_option linter.unusedSimpArgs false
set_option maxRecDepth 10000
namespace Go.Proofs.YtejgheoandfikaaGreat.draft
open Go.Am
noncomputable def c27 : CFn := ⟨[.cell (pp 2) 64 .bk],
 .seq (.reg [
 qo 1 (.m (boxF 93 (tt 0))) [pp 0],
 qo 2 (.m (allocF 64 [.blk 0])) []]) (
 .seq (.reg [
 qo 4 (.p (faddrF (tt 1) 27)) [pp 1],
 qo 5 (.r (loadF (tt 4) 64 .bk)) [pp 4],
 qo 3 (.m (allocF 64 [.blk 0])) [],
 qn (.a (storeF (tt 3) (tt 5) 64)) [pp 3, pp 5]]) (
 .seq (.seq (.reg [
 qo 6 (.p (faddrF (tt 1) 26)) [pp 1],
 qo 7 (.r (loadF (tt 6) 1 .sc)) [pp 6],
 qo 8 (.p (unF .not (tt 7))) [pp 7]]) (
 .cond (tt 8) (.reg [
 qo 10 (.p (faddrF (tt 1) 2)) [pp 1],
 qo 11 (.r (loadF (tt 10) 1 .sc)) [pp 10],
 qo 12 (.p (faddrF (tt 1) 3)) [pp 1],
 qo 13 (.r (loadF (tt 12) 23 .ag)) [pp 12],
 qo 14 (.c (callF (ff 90) [(tt 11), (tt 13)])) [pp 11, pp 13],
 mv 9 14,
 qo 15 (.p (extF (tt 9) 0)) [pp 9],
 qo 16 (.p (extF (tt 9) 1)) [pp 9],
 qn (.a (storeF (tt 3) (tt 15) 64)) [pp 3, pp 15]]) (.skip))) (
 .seq (.regD [
 qo 17 (.p (faddrF (tt 1) 91)) [pp 1],
 qo 18 (.r (loadF (tt 17) 1 .sc)) [pp 17],
 qo 19 (.p (arF .rem (tt 18) (.c (.int .u8 64)))) [pp 18],
 qo 20 (.p (iaddrAF (tt 3) (tt 19) 64 1)) [pp 3, pp 19],
 qo 21 (.r (loadF (tt 20) 1 .sc)) [pp 20],
 qo 22 (.p (faddrF (tt 1) 92)) [pp 1],
 qo 23 (.r (loadF (tt 22) 1 .sc)) [pp 22],
 qo 24 (.p (arF .xor (tt 21) (tt 23))) [pp 21, pp 23],
 qo 25 (.p (iaddrAF (tt 3) (tt 19) 64 1)) [pp 3, pp 19],
 qn (.a (storeF (tt 25) (tt 24) 1)) [pp 25, pp 24]] [0, 1, 3, 7, 15, 0, 32, 127, 255, 511]) (
 .seq (.reg [
 qo 26 (.r (loadF (tt 3) 64 .bk)) [pp 3],
 qn (.a (storeF (tt 2) (tt 26) 64)) [pp 2, pp 26]]) (
 .ret)))))⟩
theorem c27_eq : fnOf Tryz.prog 27 = some c27 := by kernel_rfl
structure SPut where
  D : Int
  N : Int
  E : Nat
  id : Nat
  me : Int
  m : Int
  s : Int
  r : Int
  S : List Nat
  c : Int
  g : Bool
  y : Bool
  B : Nat
  j : Nat
  x : Nat
def SPut.pre (p : SPut) : List V := [.int .i64 p.D, .int .i64 p.N, .int .u64 (p.E : Int)] ++ (scells p.id p.me p.m p.s p.r p.S p.c p.g ++ [.bool p.y])
def SPut.row (p : SPut) : List V := p.pre ++ [.blk p.B, .int .u8 (p.j : Int), .int .u8 (p.x : Int)]
structure SPut.ok (p : SPut) : Prop where
  E : p.E < 18446744073709551616
  id : p.id < 18446744073709551616
  S : p.S.length = 16
  j : p.j < 256
  x : p.x < 256
  B : p.B < 256 ^ 64
structure SPutsAt (H : Heap) (pp : Option Ptr) (A : List SPut) : Prop where
  has : A ≠ [] → ∃ x ro rows, pp = some ⟨x, 0⟩ ∧ H.Old x ∧ H.get x = some (.rows ro 93 rows) ∧ ∀ i, (hi : i < A.length) → rows[i]? = some A[i].row
  ok : ∀ a ∈ A, a.ok
theorem cut_pre : ∀ {l : List V}, Thin l → ∀ (r : List V) {o n : Nat}, o + (n + 1) ≤ l.length → cut (l ++ r) o (n + 1) = some ((l.drop o).take (n + 1))
  | [], _, r, o, n, h => absurd h (by simp)
  | c :: l, ht, r, 0, 0, h => by
    have hc := ht c (List.mem_cons_self ..)
    rw [List.cons_append, cut_hit _ _ hc]; rfl
  | c :: l, ht, r, 0, n + 1, h => by
    have hc := ht c (List.mem_cons_self ..)
    have ih := cut_pre (fun v hv => ht v (List.mem_cons_of_mem _ hv)) r (o := 0) (n := n) (by simp at h ⊢; omega)
    show (match c.asBlk with | some B => _ | none => (cut (l ++ r) 0 (n + 1)).map (c :: ·)) = _
    rw [hc, ih]; rfl
  | c :: l, ht, r, o + 1, n, h => by
    have hc := ht c (List.mem_cons_self ..)
    rw [List.cons_append, cut_miss _ _ _ _ hc, cut_pre (fun v hv => ht v (List.mem_cons_of_mem _ hv)) r (by simp at h; omega)]; rfl
theorem cut_past : ∀ {l : List V}, Thin l → ∀ (r : List V) (o n : Nat), cut (l ++ r) (l.length + o) (n + 1) = cut r o (n + 1)
  | [], _, r, o, n => by simp
  | c :: l, ht, r, o, n => by
    have hc := ht c (List.mem_cons_self ..)
    rw [List.cons_append, List.length_cons, show l.length + 1 + o = (l.length + o) + 1 by omega, cut_miss _ _ _ _ hc]
    exact cut_past (fun v hv => ht v (List.mem_cons_of_mem _ hv)) r o n
theorem cut_over : ∀ {l : List V}, Thin l → ∀ (r : List V) (n : Nat), cut (l ++ r) 0 (l.length + (n + 1)) = (cut r 0 (n + 1)).map (l ++ ·)
  | [], _, r, n => by
    rw [List.nil_append, List.length_nil, Nat.zero_add]
    cases cut r 0 (n + 1) <;> rfl
  | c :: l, ht, r, n => by
    have hc := ht c (List.mem_cons_self ..)
    have ih := cut_over (fun v hv => ht v (List.mem_cons_of_mem _ hv)) r n
    rw [List.cons_append, List.length_cons, show l.length + 1 + (n + 1) = (l.length + (n + 1)) + 1 by omega]
    show (match c.asBlk with | some B => _ | none => (cut (l ++ r) 0 (l.length + (n + 1))).map (c :: ·)) = _
    rw [hc, ih]
    cases cut r 0 (n + 1) <;> rfl
theorem width_over : ∀ {l : List V}, Thin l → ∀ (r : List V), width (l ++ r) = l.length + width r
  | [], _, r => by simp
  | c :: l, ht, r => by
    have hc := ht c (List.mem_cons_self ..)
    have ih := width_over (fun v hv => ht v (List.mem_cons_of_mem _ hv)) r
    have : c.w = 1 := by unfold V.w; rw [hc]
    show Nat.add c.w (width (l ++ r)) = _
    rw [this, ih, List.length_cons]
    show 1 + (l.length + width r) = _
    omega
theorem pre_thin (p : SPut) : Thin p.pre := by
  intro v hv
  unfold SPut.pre at hv
  rcases List.mem_append.1 hv with h | h
  · simp at h; rcases h with rfl | rfl | rfl <;> rfl
  · rcases List.mem_append.1 h with h | h
    · exact s_thin _ _ _ _ _ _ _ _ v h
    · simp at h; subst h; rfl
theorem pre_len (p : SPut) (h : p.S.length = 16) : p.pre.length = 27 := by
  unfold SPut.pre
  rw [List.length_append, List.length_append, s_len h]; rfl
theorem sput_cuts (p : SPut) (h : p.S.length = 16) : cut p.row 0 1 = some [.int .i64 p.D] ∧ cut p.row 1 1 = some [.int .i64 p.N] ∧ cut p.row 2 1 = some [.int .u64 (p.E : Int)] ∧ cut p.row 3 23 = some (scells p.id p.me p.m p.s p.r p.S p.c p.g) ∧ cut p.row 26 1 = some [.bool p.y] ∧ cut p.row 27 64 = some [.blk p.B] ∧ cut p.row 91 1 = some [.int .u8 (p.j : Int)] ∧ cut p.row 92 1 = some [.int .u8 (p.x : Int)] ∧ cut p.row 0 93 = some p.row ∧ width p.row = 93 := by
  have ht := pre_thin p
  have hl := pre_len p h
  have hs := s_len h p.id p.me p.m p.s p.r p.c p.g
  unfold SPut.row
  refine ⟨?_, ?_, ?_, ?_, ?_, ?_, ?_, ?_, ?_, ?_⟩
  · rw [cut_pre ht _ (by omega)]; rfl
  · rw [cut_pre ht _ (by omega)]; rfl
  · rw [cut_pre ht _ (by omega)]; rfl
  · rw [cut_pre ht _ (by omega)]
    unfold SPut.pre
    show some (List.take 23 (scells p.id p.me p.m p.s p.r p.S p.c p.g ++ [V.bool p.y])) = _
    rw [List.take_left' hs]
  · rw [cut_pre ht _ (by omega)]
    unfold SPut.pre
    show some (List.take 1 (List.drop 23 (scells p.id p.me p.m p.s p.r p.S p.c p.g ++ [V.bool p.y]))) = _
    rw [List.drop_left' hs]; rfl
  · have := cut_past ht [V.blk p.B, .int .u8 (p.j : Int), .int .u8 (p.x : Int)] 0 63
    rw [hl] at this
    rw [this]; exact Dy _ _
  · have := cut_past ht [V.blk p.B, .int .u8 (p.j : Int), .int .u8 (p.x : Int)] 64 0
    rw [hl] at this
    rw [this]; rfl
  · have := cut_past ht [V.blk p.B, .int .u8 (p.j : Int), .int .u8 (p.x : Int)] 65 0
    rw [hl] at this
    rw [this]; rfl
  · have := cut_over ht [V.blk p.B, .int .u8 (p.j : Int), .int .u8 (p.x : Int)] 65
    rw [hl] at this
    rw [this]; rfl
  · rw [width_over ht, hl]; rfl
theorem SPutsAt.load {H H' : Heap} {pp : Option Ptr} {A : List SPut} (h : SPutsAt H pp A) (k : Turns Z H H') {i : Nat} (hi : i < A.length) : ∃ x, pp = some ⟨x, 0⟩ ∧ loadAt H' ⟨x, i * 93⟩ 93 = some A[i].row ∧ loadAt H' ⟨x, i * 93⟩ 1 = some [.int .i64 A[i].D] ∧ loadAt H' ⟨x, i * 93 + 1⟩ 1 = some [.int .i64 A[i].N] := by
  obtain ⟨x, ro, rows, hp, ho, hg, hr⟩ := h.has (fun e => by rw [e] at hi; simp at hi)
  obtain ⟨c1, c2, _, _, _, _, _, _, c3, _⟩ := sput_cuts A[i] (h.ok _ (List.getElem_mem hi)).S
  have d1 : (i * 93) / 93 = i := Nat.mul_div_cancel _ (by decide)
  have d2 : (i * 93 + 1) / 93 = i := by omega
  have m2 : (i * 93 + 1) % 93 = 1 := by omega
  refine ⟨x, hp, ?_, ?_, ?_⟩
  · rw [loadAt_eq ((k.same x ho (fun h => h)).trans hg) (r := A[i].row) (nth_of (by rw [d1]; exact hr i hi)), Nat.mul_mod_left, c3]
  · rw [loadAt_eq ((k.same x ho (fun h => h)).trans hg) (r := A[i].row) (nth_of (by rw [d1]; exact hr i hi)), Nat.mul_mod_left, c1]
  · rw [loadAt_eq ((k.same x ho (fun h => h)).trans hg) (r := A[i].row) (nth_of (by rw [d2]; exact hr i hi)), m2, c2]
open Classical in
noncomputable def SPut.raw (p : SPut) : Nat := if p.y = true then p.B else if evt p.E = true ∧ smay p.id p.me p.m p.s p.r p.S p.c then supBlk p.E p.id p.me p.m p.s p.r p.S p.c p.g else 0
noncomputable def SPut.blk (p : SPut) : Nat := disk.rotN p.raw (p.j % 64) p.x
open Classical in
theorem pblk_ok (H : Heap) (p : SPut) (hp : p.ok) {lf : Nat} (hlf : 80 < lf) (n : Nat) :
    ret (callS Tryz.prog S0 lf (n + 7) 27 [.agg p.row] H) fun v H' => Turns Z H H' ∧ v = .blk p.blk := by
  obtain ⟨c1, c2, c3, c4, c5, c6, c7, c8, c9, cw⟩ := sput_cuts p hp.S
  have hblk : p.blk = setByte p.raw (p.j % 64) (disk.xo8 (byte p.raw (p.j % 64)) p.x) := rfl
  have hraw : p.raw = if p.y = true then p.B else if evt p.E = true ∧ smay p.id p.me p.m p.s p.r p.S p.c then supBlk p.E p.id p.me p.m p.s p.r p.S p.c p.g else 0 := rfl
  have t0 := Turns.add Z H (.rows false 93 [p.row])
  have hg0 : (H.add (.rows false 93 [p.row])).get (.run H.next) = some (.rows false 93 [p.row]) := by rw [Heap.get_add, if_pos rfl]
  have hn0 : (H.add (.rows false 93 [p.row])).next = H.next + 1 := by simp
  obtain ⟨H0, hH0⟩ : ∃ K, H.add (.rows false 93 [p.row]) = K := ⟨_, rfl⟩
  rw [hH0] at t0 hg0 hn0
  have t1 := Turns.add Z H0 (.rows false 64 [[.blk 0]])
  have hg1 : (H0.add (.rows false 64 [[.blk 0]])).get (.run (H.next + 1)) = some (.rows false 64 [[.blk 0]]) := by rw [Heap.get_add, if_pos (by rw [hn0])]
  have hn1 : (H0.add (.rows false 64 [[.blk 0]])).next = H.next + 2 := by simp [hn0]
  obtain ⟨H1, hH1⟩ : ∃ K, H0.add (.rows false 64 [[.blk 0]]) = K := ⟨_, rfl⟩
  rw [hH1] at t1 hg1 hn1
  have row : ∀ {K : Heap}, Turns Z H0 K → ∀ o k, loadAt K ⟨.run H.next, o⟩ k = if o < 93 then cut p.row o k else loadAt K ⟨.run H.next, o⟩ k := fun {K} t o k => by
    by_cases ho : o < 93
    · rw [if_pos ho, loadAt_eq (r := p.row) ((t.same (.run H.next) (by show _ < _; omega) (fun h => h)).trans hg0) (nth_of (by rw [Nat.div_eq_of_lt ho]; rfl)), Nat.mod_eq_of_lt ho]
    · rw [if_neg ho]
  have lB : loadAt H1 ⟨.run H.next, 27⟩ 64 = some [.blk p.B] := by rw [row t1, if_pos (by decide), c6]
  have hg2 : ((H1.add (.rows false 64 [[.blk 0]])).set (.run (H.next + 2)) (.rows false 64 [[.blk p.B]])).get (.run (H.next + 2)) = some (.rows false 64 [[.blk p.B]]) := by rw [Heap.get_set, if_pos rfl]
  have hga : (H1.add (.rows false 64 [[.blk 0]])).get (.run (H.next + 2)) = some (.rows false 64 [[.blk 0]]) := by rw [Heap.get_add, if_pos (by rw [hn1])]
  have s2 := disk.cell_store (v := p.B) hga
  have t2 : Turns Z H1 ((H1.add (.rows false 64 [[.blk 0]])).set (.run (H.next + 2)) (.rows false 64 [[.blk p.B]])) := (Turns.add Z H1 _).setnew (by omega) _
  have hn2 : ((H1.add (.rows false 64 [[.blk 0]])).set (.run (H.next + 2)) (.rows false 64 [[.blk p.B]])).next = H.next + 3 := by simp [hn1]
  obtain ⟨H2, hH2⟩ : ∃ K, (H1.add (.rows false 64 [[.blk 0]])).set (.run (H.next + 2)) (.rows false 64 [[.blk p.B]]) = K := ⟨_, rfl⟩
  rw [hH2] at s2 t2 hg2 hn2
  have ly : loadAt H2 ⟨.run H.next, 26⟩ 1 = some [.bool p.y] := by rw [row (t1.trans t2), if_pos (by decide), c5]
  have lE : loadAt H2 ⟨.run H.next, 2⟩ 1 = some [.int .u64 (p.E : Int)] := by rw [row (t1.trans t2), if_pos (by decide), c3]
  have lS : loadAt H2 ⟨.run H.next, 3⟩ 23 = some (scells p.id p.me p.m p.s p.r p.S p.c p.g) := by rw [row (t1.trans t2), if_pos (by decide), c4]
  have r64 : arith .rem (.int .u8 (p.j : Int)) (.int .u8 64) = some (.int .u8 ((p.j % 64 : Nat) : Int)) := rem_u8 p.j 64 (by decide)
  have hj : p.j % 64 < 64 := Nat.mod_lt _ (by decide)
  have fin : ∀ {K : Heap}, Turns Z H1 K → K.get (.run (H.next + 2)) = some (.rows false 64 [[.blk p.raw]]) → H.next + 3 ≤ K.next →
      loadAt K ⟨.run H.next, 91⟩ 1 = some [.int .u8 (p.j : Int)] ∧ loadAt K ⟨.run H.next, 92⟩ 1 = some [.int .u8 (p.x : Int)] ∧ loadAt K ⟨.run (H.next + 2), p.j % 64⟩ 1 = some [.int .u8 ((byte p.raw (p.j % 64) : Nat) : Int)] ∧
      arith .xor (.int .u8 ((byte p.raw (p.j % 64) : Nat) : Int)) (.int .u8 (p.x : Int)) = some (.int .u8 ((disk.xo8 (byte p.raw (p.j % 64)) p.x : Nat) : Int)) ∧
      ∃ K', storeAt K ⟨.run (H.next + 2), p.j % 64⟩ [.int .u8 ((disk.xo8 (byte p.raw (p.j % 64)) p.x : Nat) : Int)] = some K' ∧ loadAt K' ⟨.run (H.next + 2), 0⟩ 64 = some [.blk p.blk] ∧
      ∃ K'', storeAt K' ⟨.run (H.next + 1), 0⟩ [.blk p.blk] = some K'' ∧ loadAt K'' ⟨.run (H.next + 1), 0⟩ 64 = some [.blk p.blk] ∧ Turns Z H K'' := fun {K} t gK hK => by
    have hx := disk.xo8_lt (byte_lt p.raw (p.j % 64)) hp.x
    refine ⟨by rw [row (t1.trans t), if_pos (by decide), c7], by rw [row (t1.trans t), if_pos (by decide), c8], disk.cell_load_byte gK hj, disk.xor_u8 (byte_lt _ _) hp.x, _, disk.cell_store_byte gK hj hx, ?_, ?_⟩
    · rw [← hblk, loadAt_eq (b := .run (H.next + 2)) (r := [.blk p.blk]) (by rw [Heap.get_set, if_pos rfl]) rfl]; exact Dy _ _
    · have g1 : (K.set (.run (H.next + 2)) (.rows false 64 [[.blk (setByte p.raw (p.j % 64) (disk.xo8 (byte p.raw (p.j % 64)) p.x))]])).get (.run (H.next + 1)) = some (.rows false 64 [[.blk 0]]) := by
        rw [Heap.get_set, if_neg (fun e => by have := Bk.run.inj e; omega)]
        exact (t.same (.run (H.next + 1)) (by show _ < _; omega) (fun h => h)).trans hg1
      refine ⟨_, disk.cell_store g1, ?_, ((((t0.trans t1).trans t).setnew (by omega) _).setnew (by omega) _)⟩
      rw [loadAt_eq (b := .run (H.next + 1)) (r := [.blk p.blk]) (by rw [Heap.get_set, if_pos rfl]) rfl]; exact Dy _ _
  have hle : p.j % 64 + 1 ≤ 64 := hj
  generalize hjj : p.j % 64 = jj at *
  refine ret_call rfl c27_eq ?_
  cases hy : p.y with
  | true =>
    have hr : p.raw = p.B := by rw [hraw, if_pos hy]
    obtain ⟨f1, f2, f3, f4, K', f5, f6, K'', f7, f8, f9⟩ := fin t2 (by rw [hr]; exact hg2) (by omega)
    rw [hy] at ly
    simp only [c27, cw, hH0, hH1, hn0, hn1, lB, s2, ly, sy, tup, ↓reduceIte, Nat.reduceEqDiff, Nat.reduceAdd, Nat.reduceSub, Nat.reduceMul, Nat.reduceLeDiff, Int.reduceBEq, reduceCtorEq]
    simp only [f1, f2, f3, f4, f5, r64, hle, iaddrAF, Nat.mul_one, sy, tup, ↓reduceIte, Nat.reduceEqDiff, Nat.reduceAdd, Nat.reduceSub, Nat.reduceMul, Nat.reduceLeDiff, Int.reduceBEq, reduceCtorEq]
    rw [endD_ok (by kernel_rfl) (by kernel_rfl)]
    simp only [f6, f7, f8, sy, tup, ↓reduceIte, Nat.reduceEqDiff, Nat.reduceAdd, Nat.reduceSub, Nat.reduceMul, Nat.reduceLeDiff, Int.reduceBEq, reduceCtorEq]
    exact ⟨trivial, .inr trivial, _, rfl, f9, rfl⟩
  | false =>
    rw [hy] at ly
    obtain ⟨v3, H3, e3, t3, hv3⟩ := rput8_ok H2 (N := p.E) (id := p.id) (me := p.me) (m := p.m) (s := p.s) (r := p.r) (S := p.S) (c := p.c) (g := p.g) hp.E hp.id hp.S hlf n
    unfold sup at e3
    have g3 : H3.get (.run (H.next + 2)) = some (.rows false 64 [[.blk p.B]]) := (t3.same (.run (H.next + 2)) (by show _ < _; omega) (fun h => h)).trans hg2
    have hh : ∃ E : Int, v3 = .tuple [.blk p.raw, .int .i64 E] := by
      rcases hv3 with ⟨h1, h2, rfl⟩ | ⟨h1, rfl⟩
      · exact ⟨0, by rw [hraw, if_neg (by rw [hy]; decide), if_pos ⟨h1, h2⟩]⟩
      · exact ⟨2, by rw [hraw, if_neg (by rw [hy]; decide), if_neg h1]⟩
    obtain ⟨EE, rfl⟩ := hh
    have s3 := disk.cell_store (v := p.raw) g3
    have hn3 := t3.next
    obtain ⟨f1, f2, f3, f4, K', f5, f6, K'', f7, f8, f9⟩ := fin (K := H3.set (.run (H.next + 2)) (.rows false 64 [[.blk p.raw]])) ((t2.trans t3).setnew (by omega) _) (by rw [Heap.get_set, if_pos rfl]) (by simp; omega)
    simp only [c27, cw, hH0, hH1, hn0, hn1, lB, s2, ly, lE, lS, e3, s3, sy, tup, ↓reduceIte, Nat.reduceEqDiff, Nat.reduceAdd, Nat.reduceSub, Nat.reduceMul, Nat.reduceLeDiff, Int.reduceBEq, reduceCtorEq]
    simp only [f1, f2, f3, f4, f5, r64, hle, iaddrAF, Nat.mul_one, sy, tup, ↓reduceIte, Nat.reduceEqDiff, Nat.reduceAdd, Nat.reduceSub, Nat.reduceMul, Nat.reduceLeDiff, Int.reduceBEq, reduceCtorEq]
    rw [endD_ok (by kernel_rfl) (by kernel_rfl)]
    simp only [f6, f7, f8, sy, tup, ↓reduceIte, Nat.reduceEqDiff, Nat.reduceAdd, Nat.reduceSub, Nat.reduceMul, Nat.reduceLeDiff, Int.reduceBEq, reduceCtorEq]
    exact ⟨trivial, .inr trivial, _, rfl, f9, rfl⟩
def putSh : Sh := .seq (.int .i64) (.seq (.int .i64) (.seq (.int .u64) (.seq (.seq (.int .u64) (.seq (.int .i64) (.seq (.seq (.seq (.int .i64) (.seq (.int .i64) (.seq (.int .i64) .nil))) (.seq (.seq (.int .u8) (.seq (.int .u8) (.seq (.int .u8) (.seq (.int .u8) (.seq (.int .u8) (.seq (.int .u8) (.seq (.int .u8) (.seq (.int .u8) (.seq (.int .u8) (.seq (.int .u8) (.seq (.int .u8) (.seq (.int .u8) (.seq (.int .u8) (.seq (.int .u8) (.seq (.int .u8) (.seq (.int .u8) .nil)))))))))))))))) (.seq (.int .i64) (.seq .bool .nil)))) .nil))) (.seq .bool (.seq .blk (.seq (.int .u8) (.seq (.int .u8) .nil)))))))
theorem wf_u64 {n : Int} (h : (Lit.int .u64 n).wf = true) : ∃ s : Nat, s < 18446744073709551616 ∧ n = (s : Int) := by
  have h : (decide (IntKind.u64.min ≤ n) && decide (n ≤ IntKind.u64.max)) = true := h
  simp only [Bool.and_eq_true, decide_eq_true_eq] at h
  have h1 : (0 : Int) ≤ n := h.1
  have h2 : n ≤ 18446744073709551615 := h.2
  exact ⟨n.toNat, by omega, (Int.toNat_of_nonneg h1).symm⟩
theorem sts_of {a : Nat → Option Am.Obj} {C : List V} (h : Fits a (.seq (.int .u8) (.seq (.int .u8) (.seq (.int .u8) (.seq (.int .u8) (.seq (.int .u8) (.seq (.int .u8) (.seq (.int .u8) (.seq (.int .u8) (.seq (.int .u8) (.seq (.int .u8) (.seq (.int .u8) (.seq (.int .u8) (.seq (.int .u8) (.seq (.int .u8) (.seq (.int .u8) (.seq (.int .u8) .nil)))))))))))))))) C) : ∃ S, List.length S = 16 ∧ C = sts S := by
  obtain ⟨_, _, rfl, ⟨nx0, wx0, rfl⟩, _, _, rfl, ⟨nx1, wx1, rfl⟩, _, _, rfl, ⟨nx2, wx2, rfl⟩, _, _, rfl, ⟨nx3, wx3, rfl⟩, _, _, rfl, ⟨nx4, wx4, rfl⟩, _, _, rfl, ⟨nx5, wx5, rfl⟩, _, _, rfl, ⟨nx6, wx6, rfl⟩, _, _, rfl, ⟨nx7, wx7, rfl⟩, _, _, rfl, ⟨nx8, wx8, rfl⟩, _, _, rfl, ⟨nx9, wx9, rfl⟩, _, _, rfl, ⟨nx10, wx10, rfl⟩, _, _, rfl, ⟨nx11, wx11, rfl⟩, _, _, rfl, ⟨nx12, wx12, rfl⟩, _, _, rfl, ⟨nx13, wx13, rfl⟩, _, _, rfl, ⟨nx14, wx14, rfl⟩, _, _, rfl, ⟨nx15, wx15, rfl⟩, rfl⟩ := h
  obtain ⟨x0, _, rfl⟩ := disk.wf_u8 wx0
  obtain ⟨x1, _, rfl⟩ := disk.wf_u8 wx1
  obtain ⟨x2, _, rfl⟩ := disk.wf_u8 wx2
  obtain ⟨x3, _, rfl⟩ := disk.wf_u8 wx3
  obtain ⟨x4, _, rfl⟩ := disk.wf_u8 wx4
  obtain ⟨x5, _, rfl⟩ := disk.wf_u8 wx5
  obtain ⟨x6, _, rfl⟩ := disk.wf_u8 wx6
  obtain ⟨x7, _, rfl⟩ := disk.wf_u8 wx7
  obtain ⟨x8, _, rfl⟩ := disk.wf_u8 wx8
  obtain ⟨x9, _, rfl⟩ := disk.wf_u8 wx9
  obtain ⟨x10, _, rfl⟩ := disk.wf_u8 wx10
  obtain ⟨x11, _, rfl⟩ := disk.wf_u8 wx11
  obtain ⟨x12, _, rfl⟩ := disk.wf_u8 wx12
  obtain ⟨x13, _, rfl⟩ := disk.wf_u8 wx13
  obtain ⟨x14, _, rfl⟩ := disk.wf_u8 wx14
  obtain ⟨x15, _, rfl⟩ := disk.wf_u8 wx15
  exact ⟨[x0, x1, x2, x3, x4, x5, x6, x7, x8, x9, x10, x11, x12, x13, x14, x15], rfl, rfl⟩
theorem geo_of {a : Nat → Option Am.Obj} {C : List V} (h : Fits a (.seq (.int .i64) (.seq (.int .i64) (.seq (.int .i64) .nil))) C) : ∃ m s r, C = [.int .i64 m, .int .i64 s, .int .i64 r] := by
  obtain ⟨_, _, rfl, ⟨m, _, rfl⟩, _, _, rfl, ⟨s, _, rfl⟩, _, _, rfl, ⟨r, _, rfl⟩, rfl⟩ := h
  exact ⟨m, s, r, rfl⟩
theorem rcells_of {a : Nat → Option Am.Obj} {C : List V} (h : Fits a (.seq (.seq (.int .i64) (.seq (.int .i64) (.seq (.int .i64) .nil))) (.seq (.seq (.int .u8) (.seq (.int .u8) (.seq (.int .u8) (.seq (.int .u8) (.seq (.int .u8) (.seq (.int .u8) (.seq (.int .u8) (.seq (.int .u8) (.seq (.int .u8) (.seq (.int .u8) (.seq (.int .u8) (.seq (.int .u8) (.seq (.int .u8) (.seq (.int .u8) (.seq (.int .u8) (.seq (.int .u8) .nil)))))))))))))))) (.seq (.int .i64) (.seq .bool .nil)))) C) : ∃ m s r S c g, List.length S = 16 ∧ C = rcells m s r S c g := by
  obtain ⟨C1, R1, rfl, h1, C2, R2, rfl, h2, C3, R3, rfl, ⟨c, _, rfl⟩, C4, R4, rfl, ⟨g, rfl⟩, rfl⟩ := h
  obtain ⟨m, s, r, rfl⟩ := geo_of h1
  obtain ⟨S, hS, rfl⟩ := sts_of h2
  exact ⟨m, s, r, S, c, g, hS, rfl⟩
theorem scells_of {a : Nat → Option Am.Obj} {C : List V} (h : Fits a (.seq (.int .u64) (.seq (.int .i64) (.seq (.seq (.seq (.int .i64) (.seq (.int .i64) (.seq (.int .i64) .nil))) (.seq (.seq (.int .u8) (.seq (.int .u8) (.seq (.int .u8) (.seq (.int .u8) (.seq (.int .u8) (.seq (.int .u8) (.seq (.int .u8) (.seq (.int .u8) (.seq (.int .u8) (.seq (.int .u8) (.seq (.int .u8) (.seq (.int .u8) (.seq (.int .u8) (.seq (.int .u8) (.seq (.int .u8) (.seq (.int .u8) .nil)))))))))))))))) (.seq (.int .i64) (.seq .bool .nil)))) .nil))) C) : ∃ (id : Nat) (me m s r : Int) (S : List Nat) (c : Int) (g : Bool), id < 18446744073709551616 ∧ S.length = 16 ∧ C = scells id me m s r S c g := by
  obtain ⟨C1, R1, rfl, ⟨id, wid, rfl⟩, C2, R2, rfl, ⟨me, _, rfl⟩, C3, R3, rfl, h3, rfl⟩ := h
  obtain ⟨m, s, r, S, c, g, hS, rfl⟩ := rcells_of h3
  obtain ⟨id, hid, rfl⟩ := wf_u64 wid
  exact ⟨id, me, m, s, r, S, c, g, hid, hS, by rw [List.append_nil]; rfl⟩
theorem put_of {a : Nat → Option Am.Obj} {R : List V} (h : Fits a putSh R) : ∃ p : SPut, p.row = R ∧ p.ok := by
  obtain ⟨C1, R1, rfl, ⟨D, _, rfl⟩, C2, R2, rfl, ⟨N, _, rfl⟩, C3, R3, rfl, ⟨E, wE, rfl⟩, C4, R4, rfl, h4, C5, R5, rfl, ⟨y, rfl⟩, C6, R6, rfl, ⟨B, hB, rfl⟩, C7, R7, rfl, ⟨j, wj, rfl⟩, C8, R8, rfl, ⟨x, wx, rfl⟩, rfl⟩ := h
  obtain ⟨id, me, m, s, r, S, c, g, hid, hS, rfl⟩ := scells_of h4
  obtain ⟨E, hE, rfl⟩ := wf_u64 wE
  obtain ⟨j, hj, rfl⟩ := disk.wf_u8 wj
  obtain ⟨x, hx, rfl⟩ := disk.wf_u8 wx
  refine ⟨⟨D, N, E, id, me, m, s, r, S, c, g, y, B, j, x⟩, ?_, ⟨hE, hid, hS, hj, hx, hB⟩⟩
  unfold SPut.row SPut.pre
  simp
theorem puts_ofL {a : Nat → Option Am.Obj} : ∀ (l : List (List V)), (∀ r ∈ l, Fits a putSh r) → ∃ A : List SPut, A.map SPut.row = l ∧ ∀ x ∈ A, x.ok
  | [], _ => ⟨[], rfl, fun x hx => absurd hx (by simp)⟩
  | r :: l, h => by
    obtain ⟨x, h1, h2⟩ := put_of (h r (List.mem_cons_self ..))
    obtain ⟨A, h3, h4⟩ := puts_ofL l (fun r hr => h r (List.mem_cons_of_mem _ hr))
    refine ⟨x :: A, by rw [List.map_cons, h1, h3], fun z hz => ?_⟩
    rcases List.mem_cons.1 hz with rfl | hz
    · exact h2
    · exact h4 z hz
theorem puts_of {P : Program} {a : Nat → Option Am.Obj} {u : V} (h : FitsV a (.slice 93 putSh) u) : ∃ lp lc A, u = .slice lp (List.length A) lc 0 ∧ SPutsAt (heapA P a) lp A := by
  obtain ⟨C, hf, hu⟩ := h
  rcases hf with rfl | ⟨b, len, rows, rfl, hb, hl, _, hr⟩
  · cases hu
    exact ⟨none, 0, [], rfl, fun e => absurd rfl e, fun x hx => absurd hx (by simp)⟩
  · cases hu
    obtain ⟨A, h1, h2⟩ := puts_ofL (rows.take len) (fun r hr' => hr r (List.mem_of_mem_take hr'))
    have hlen : A.length = len := by
      have := congrArg List.length h1
      simpa [Nat.min_eq_left hl] using this
    refine ⟨some ⟨.arg b, 0⟩, rows.length, A, by rw [hlen], fun _ => ⟨.arg b, true, rows, rfl, trivial, hb, fun i hi => ?_⟩, h2⟩
    have e : (A.map SPut.row)[i]? = (rows.take len)[i]? := by rw [h1]
    rw [List.getElem?_map, List.getElem?_eq_getElem hi, List.getElem?_take, if_pos (by omega)] at e
    exact e.symm
end Go.Proofs.YtejgheoandfikaaGreat.draft
set_option linter.unusedVariables false
set_option linter.unusedSimpArgs false
set_option maxRecDepth 10000
namespace Go.Proofs.YtejgheoandfikaaGreat.disk
open Go.Am
theorem sect_set {B : Bn} {d : Int} {D : Dev} (h : D.S.length = (B.dev d).S.length) (e : Int) (st ar : Int) (dk : Bool) : (Bn.mk (B.l.set d.toNat D) st ar dk).sectors e = B.sectors e := by
  unfold Bn.sectors Bn.tc Bn.dev
  simp only [List.length_set]
  by_cases ht : tcode B.l.length e = 0
  · rw [if_pos ht, if_pos ht]
    by_cases hi : d.toNat = e.toNat
    · unfold Bn.dev at h
      rw [hi] at h ⊢
      by_cases hl : e.toNat < B.l.length
      · rw [List.getD_eq_getElem?_getD, List.getElem?_set_self hl]
        show ((D.S.length : Nat) : Int) = _
        rw [h]
      · rw [List.set_eq_of_length_le (by omega)]
    · rw [List.getD_eq_getElem?_getD, List.getElem?_set_ne hi, ← List.getD_eq_getElem?_getD]
  · rw [if_neg ht, if_neg ht]
structure Same (B C : Bn) : Prop where
  len : C.l.length = B.l.length
  sec : ∀ d, C.sectors d = B.sectors d
  dk : B.ar = 0 → B.dk = false → C.ar = 0 ∧ C.dk = false
theorem Same.trans {A B C : Bn} (h : Same A B) (k : Same B C) : Same A C := ⟨k.len.trans h.len, fun d => (k.sec d).trans (h.sec d), fun a b => k.dk (h.dk a b).1 (h.dk a b).2⟩
theorem Same.refl (B : Bn) : Same B B := ⟨rfl, fun _ => rfl, fun a b => ⟨a, b⟩⟩
theorem same_step {B : Bn} {d : Int} {D : Dev} (h : D.S.length = (B.dev d).S.length) : Same B (B.step d D) := by
  unfold Bn.step
  split
  · rename_i h1
    exact ⟨rfl, fun _ => rfl, fun a => by rw [h1] at a; cases a⟩
  · refine ⟨List.length_set .., fun e => sect_set h e _ _ _, fun a b => ⟨?_, b⟩⟩
    show arLess B.ar = 0
    rw [a]; rfl
theorem write_S (D : Dev) (n : Int) (x : Nat) : (D.write n x).S = D.S := by
  unfold Dev.write
  split <;> rfl
theorem same_write (B : Bn) (d n : Int) (x : Nat) : Same B (B.write d n x) := by
  unfold Bn.write
  split
  · exact same_step (by rw [write_S])
  · exact Same.refl B
end Go.Proofs.YtejgheoandfikaaGreat.disk
namespace Go.Proofs.YtejgheoandfikaaGreat.draft
open Go.Am
noncomputable def c26_l0 : C := .seq (.seq (.reg [
 mv 11 6,
 mv 12 0,
 qo 13 (.p (arF .lss (tt 11) (tt 12))) [pp 11, pp 12]]) (
 .cond (tt 13) (.skip) (.exit 0))) (
 .seq (.block 1 (.reg [
 mv 16 5,
 qo 17 (.m (bsliceF 1 1 [.int .i64 0] [(0, 1, (ii 6))])) [],
 qo 18 (.a (appF 1 8 (tt 16) (tt 17))) [pp 16, pp 17],
 mv 5 18])) (
 .reg [
 mv 14 6,
 qo 15 (.p (arF .add (tt 14) (ii 1))) [pp 14],
 mv 6 15]))
noncomputable def c26 : CFn := ⟨[.tmp (pp 2), .tmp (pp 3), .tmp (pp 4)],
 .seq (.reg [
 qo 2 (.p (S.get (.c (.ptr none)))) [],
 qo 3 (.p (S.get (.c (.ptr none)))) [],
 qo 4 (.p (S.get (.c (.bool false)))) []]) (
 .seq (.reg [
 qo 5 (.p (S.get (.c (.slice none 0 0 0)))) []]) (
 .seq (.seq (.reg [
 qo 6 (.p (S.get (ii 0))) []]) (
 .block 0 (.loop c26_l0))) (
 .seq (.reg [
 mv 19 5,
 qo 20 (.m (bsliceF 1 1 [.int .i64 0] [(0, 1, (ii 50))])) [],
 qo 21 (.a (appF 1 8 (tt 19) (tt 20))) [pp 19, pp 20],
 mv 5 21]) (
 .seq (.reg [
 mv 23 5,
 qo 24 (.c (callF (ff 44) [(tt 23)])) [pp 23],
 mv 22 24,
 qo 25 (.p (extF (tt 22) 0)) [pp 22],
 qo 26 (.p (extF (tt 22) 1)) [pp 22],
 mv 7 25,
 mv 8 26]) (
 .seq (.reg [
 mv 28 5,
 qo 29 (.c (callF (ff 62) [(tt 28)])) [pp 28],
 mv 27 29,
 qo 30 (.p (extF (tt 27) 0)) [pp 27],
 qo 31 (.p (extF (tt 27) 1)) [pp 27],
 mv 9 30,
 mv 10 31]) (
 .seq (.reg [
 mv 32 7,
 mv 33 9,
 mv 34 8,
 qo 35 (.p (eqcF false false [.int .i64] (tt 34) (ii 0))) [pp 34],
 mv 36 35,
 mg 37 10 36 true,
 qg 38 (.p (eqcF false false [.int .i64] (tt 37) (ii 0))) 36 true [pp 37],
 qo 39 (.p (pickF (tt 36) (tt 38) (.c (.bool false)))) [pp 36, pp 38],
 mv 2 32,
 mv 3 33,
 mv 4 39]) (
 .ret)))))))⟩
theorem c26_eq : fnOf Tryz.prog 26 = some c26 := by kernel_rfl
noncomputable def c41 : CFn := ⟨[.tmp (pp 4)],
 .seq (.reg [
 qo 2 (.m (boxF 23 (tt 0))) [pp 0],
 qo 3 (.m (boxF 23 (tt 1))) [pp 1],
 qo 4 (.p (S.get (.c (.bool false)))) []]) (
 .seq (.reg [
 qo 5 (.p (faddrF (tt 2) 0)) [pp 2],
 qo 6 (.r (loadF (tt 5) 1 .sc)) [pp 5],
 qo 7 (.p (faddrF (tt 3) 0)) [pp 3],
 qo 8 (.r (loadF (tt 7) 1 .sc)) [pp 7],
 qo 9 (.p (eqcF false false [.int .u64] (tt 6) (tt 8))) [pp 6, pp 8],
 mv 10 9,
 qg 11 (.p (faddrF (tt 2) 1)) 10 true [pp 2],
 qg 12 (.r (loadF (tt 11) 1 .sc)) 10 true [pp 11],
 qg 13 (.p (faddrF (tt 3) 1)) 10 true [pp 3],
 qg 14 (.r (loadF (tt 13) 1 .sc)) 10 true [pp 13],
 qg 15 (.p (eqcF false false [.int .u64] (tt 12) (tt 14))) 10 true [pp 12, pp 14],
 qo 16 (.p (pickF (tt 10) (tt 15) (.c (.bool false)))) [pp 10, pp 15],
 mv 17 16,
 qg 18 (.p (faddrF (tt 2) 2)) 17 true [pp 2],
 qg 19 (.r (loadF (tt 18) 21 .ag)) 17 true [pp 18],
 qg 20 (.p (faddrF (tt 3) 2)) 17 true [pp 3],
 qg 21 (.r (loadF (tt 20) 21 .ag)) 17 true [pp 20],
 qg 22 (.c (callF (ff 53) [(tt 19), (tt 21)])) 17 true [pp 19, pp 21],
 qo 23 (.p (pickF (tt 17) (tt 22) (.c (.bool false)))) [pp 17, pp 22],
 mv 4 23]) (
 .ret))⟩
theorem c41_eq : fnOf Tryz.prog 41 = some c41 := by kernel_rfl
noncomputable def c53 : CFn := ⟨[.tmp (pp 4)],
 .seq (.reg [
 qo 2 (.m (boxF 21 (tt 0))) [pp 0],
 qo 3 (.m (boxF 21 (tt 1))) [pp 1],
 qo 4 (.p (S.get (.c (.bool false)))) []]) (
 .seq (.seq (.reg [
 qo 5 (.p (faddrF (tt 2) 0)) [pp 2],
 qo 6 (.p (faddrF (tt 5) 0)) [pp 5],
 qo 7 (.r (loadF (tt 6) 1 .sc)) [pp 6],
 qo 8 (.p (faddrF (tt 3) 0)) [pp 3],
 qo 9 (.p (faddrF (tt 8) 0)) [pp 8],
 qo 10 (.r (loadF (tt 9) 1 .sc)) [pp 9],
 qo 11 (.p (eqcF true false [.int .i64] (tt 7) (tt 10))) [pp 7, pp 10],
 mv 12 11,
 qg 13 (.p (faddrF (tt 2) 0)) 12 false [pp 2],
 qg 14 (.p (faddrF (tt 13) 1)) 12 false [pp 13],
 qg 15 (.r (loadF (tt 14) 1 .sc)) 12 false [pp 14],
 qg 16 (.p (faddrF (tt 3) 0)) 12 false [pp 3],
 qg 17 (.p (faddrF (tt 16) 1)) 12 false [pp 16],
 qg 18 (.r (loadF (tt 17) 1 .sc)) 12 false [pp 17],
 qg 19 (.p (eqcF true false [.int .i64] (tt 15) (tt 18))) 12 false [pp 15, pp 18],
 qo 20 (.p (pickF (tt 12) (.c (.bool true)) (tt 19))) [pp 12, pp 19],
 mv 21 20,
 qg 22 (.p (faddrF (tt 2) 0)) 21 false [pp 2],
 qg 23 (.p (faddrF (tt 22) 2)) 21 false [pp 22],
 qg 24 (.r (loadF (tt 23) 1 .sc)) 21 false [pp 23],
 qg 25 (.p (faddrF (tt 3) 0)) 21 false [pp 3],
 qg 26 (.p (faddrF (tt 25) 2)) 21 false [pp 25],
 qg 27 (.r (loadF (tt 26) 1 .sc)) 21 false [pp 26],
 qg 28 (.p (eqcF true false [.int .i64] (tt 24) (tt 27))) 21 false [pp 24, pp 27],
 qo 29 (.p (pickF (tt 21) (.c (.bool true)) (tt 28))) [pp 21, pp 28],
 mv 30 29,
 qg 31 (.p (faddrF (tt 2) 19)) 30 false [pp 2],
 qg 32 (.r (loadF (tt 31) 1 .sc)) 30 false [pp 31],
 qg 33 (.p (faddrF (tt 3) 19)) 30 false [pp 3],
 qg 34 (.r (loadF (tt 33) 1 .sc)) 30 false [pp 33],
 qg 35 (.p (eqcF true false [.int .i64] (tt 32) (tt 34))) 30 false [pp 32, pp 34],
 qo 36 (.p (pickF (tt 30) (.c (.bool true)) (tt 35))) [pp 30, pp 35],
 mv 37 36,
 qg 38 (.p (faddrF (tt 2) 20)) 37 false [pp 2],
 qg 39 (.r (loadF (tt 38) 1 .sc)) 37 false [pp 38],
 qg 40 (.p (faddrF (tt 3) 20)) 37 false [pp 3],
 qg 41 (.r (loadF (tt 40) 1 .sc)) 37 false [pp 40],
 qg 42 (.p (eqcF true false [.bool] (tt 39) (tt 41))) 37 false [pp 39, pp 41],
 qo 43 (.p (pickF (tt 37) (.c (.bool true)) (tt 42))) [pp 37, pp 42]]) (
 .cond (tt 43) (.seq (.reg [
 qo 4 (.p (S.get (.c (.bool false)))) []]) (
 .ret)) (.skip))) (
 .seq (.regD [
 qo 44 (.p (faddrF (tt 2) 3)) [pp 2],
 qo 45 (.p (sliceAF 16 1 (tt 44) none none none)) [pp 44],
 qo 46 (.p (faddrF (tt 3) 3)) [pp 3],
 qo 47 (.p (sliceAF 16 1 (tt 46) none none none)) [pp 46],
 qo 48 (.c (callF (ff 126) [(tt 45), (tt 47)])) [pp 45, pp 47],
 mv 4 48] [0, 1, 0, 4, 15, 31]) (
 .ret)))⟩
theorem c53_eq : fnOf Tryz.prog 53 = some c53 := by kernel_rfl
noncomputable def c126_l0 : C := .seq (.seq (.reg [
 mv 11 5,
 mv 12 0,
 qo 13 (.p (lenF (tt 12))) [pp 12],
 qo 14 (.p (arF .lss (tt 11) (tt 13))) [pp 11, pp 13]]) (
 .cond (tt 14) (.skip) (.exit 0))) (
 .seq (.block 1 (.seq (.regD [
 mv 17 0,
 mv 18 5,
 qo 19 (.p (iaddrSF (tt 17) (tt 18) 1)) [pp 17, pp 18],
 qo 20 (.r (loadF (tt 19) 1 .sc)) [pp 19],
 mv 21 1,
 mv 22 5,
 qo 23 (.p (iaddrSF (tt 21) (tt 22) 1)) [pp 21, pp 22],
 qo 24 (.r (loadF (tt 23) 1 .sc)) [pp 23],
 qo 25 (.p (eqcF true false [.int .u8] (tt 20) (tt 24))) [pp 20, pp 24]] [0, 0, 3, 7, 0, 0, 48, 112, 255]) (
 .cond (tt 25) (.seq (.reg [
 qo 4 (.p (S.get (.c (.bool false)))) []]) (
 .ret)) (.skip)))) (
 .reg [
 mv 15 5,
 qo 16 (.p (arF .add (tt 15) (ii 1))) [pp 15],
 mv 5 16]))
noncomputable def c126 : CFn := ⟨[.tmp (pp 4)],
 .seq (.reg [
 qo 4 (.p (S.get (.c (.bool false)))) []]) (
 .seq (.seq (.reg [
 mv 6 0,
 qo 7 (.p (lenF (tt 6))) [pp 6],
 mv 8 1,
 qo 9 (.p (lenF (tt 8))) [pp 8],
 qo 10 (.p (eqcF true false [.int .i64] (tt 7) (tt 9))) [pp 7, pp 9]]) (
 .cond (tt 10) (.seq (.reg [
 qo 4 (.p (S.get (.c (.bool false)))) []]) (
 .ret)) (.skip))) (
 .seq (.seq (.reg [
 qo 5 (.p (S.get (ii 0))) []]) (
 .block 0 (.loop c126_l0))) (
 .seq (.reg [
 qo 4 (.p (S.get (.c (.bool true)))) []]) (
 .ret))))⟩
theorem c126_eq : fnOf Tryz.prog 126 = some c126 := by kernel_rfl
def sizes (k : Nat) : List Int := List.replicate k 6 ++ [50]
def rowsI (l : List Int) : List (List V) := l.map fun n : Int => [V.int .i64 n]
theorem rowsI_len (l : List Int) : (rowsI l).length = l.length := by unfold rowsI; simp
theorem appI {H1 HH : Heap} {ks : List Int} {y : V} (hy : Lst H1 HH 1 (rowsI ks) y) (tz : Turns Z H1 HH) (hl : ks.length ≤ 16) (u : Int) : ∃ H', appendV 1 8 (HH.add (.rows false 1 [[.int .i64 u]])) y (.slice (some ⟨.run HH.next, 0⟩) 1 1 0) = some (.slice (some ⟨.run (HH.next + 1), 0⟩) (ks.length + 1) (ks.length + 1) 1, H') ∧ Lst H1 H' 1 (rowsI (ks ++ [u])) (.slice (some ⟨.run (HH.next + 1), 0⟩) (ks.length + 1) (ks.length + 1) 1) ∧ Turns Z H1 H' := by
  have ta := Turns.add Z HH (.rows false 1 [[.int .i64 u]])
  have hxg : (HH.add (.rows false 1 [[.int .i64 u]])).get (.run HH.next) = some (.rows false 1 [[.int .i64 u]]) := by rw [Heap.get_add, if_pos rfl]
  have hya := hy.turns ta (fun _ _ => id)
  have hl' := rowsI_len ks
  obtain ⟨H', ea, hv', ta', _⟩ := hya.app1 (by' := 8) (Nat.le_trans tz.next ta.next) hxg rfl (by decide) (by rw [hl']; omega) (by rw [hl']; omega)
  rw [hl', Heap.next_add] at ea hv'
  have hR : rowsI ks ++ [[.int .i64 u]] = rowsI (ks ++ [u]) := by unfold rowsI; simp
  rw [hR] at hv'
  exact ⟨H', ea, hv', lst_away hya (tz.trans ta) (Nat.le_refl _) ta'⟩
theorem picks_lst {H0 H : Heap} {P : List Int} {v : V} (h : Lst H0 H 1 (rowsI P) v) (hP : P ≠ []) : ∃ p, v = .slice p P.length P.length 1 ∧ disk.PicksAt H p P disk.Z := by
  rcases h with ⟨e, _⟩ | ⟨k, _, rfl, hg, h1, h2⟩
  · cases P with
    | nil => exact absurd rfl hP
    | cons => cases e
  · rw [rowsI_len]
    refine ⟨_, rfl, ⟨fun _ => ⟨.run k, 0, false, _, rfl, h2, fun h => h, hg, fun i hi => ?_⟩⟩⟩
    unfold rowsI
    rw [Nat.zero_add, List.getElem?_map, List.getElem?_eq_getElem hi]; rfl
theorem benches_ok (H : Heap) {k : Nat} (hk : 1 ≤ k ∧ k ≤ 6) {lf : Nat} (hlf : 1000 < lf) (n : Nat) :
    ret (callS Tryz.prog S0 lf (n + 3) 26 [.int .i64 (k : Int)] H) fun v H' => Turns Z H H' ∧ ∃ b ds l c es q, v = .tuple [.ptr (some ⟨b, 0⟩), .ptr (some ⟨c, 0⟩), .bool true] ∧ disk.Rep false H' b ds 1 l (disk.newB (sizes k)) ∧ disk.Rep true H' c es 1 q (disk.newB (sizes k)) ∧ (∀ x, disk.BFoot b ds l x → ¬ H.Old x) ∧ (∀ x, disk.BFoot c es q x → ¬ H.Old x) ∧ (∀ x, disk.BFoot b ds l x → ¬ disk.BFoot c es q x) := by
  refine ret_call rfl c26_eq ?_
  simp only [c26, sy, tup, ↓reduceIte, Nat.reduceEqDiff, Nat.reduceAdd, Nat.reduceSub, Nat.reduceMul, Nat.reduceLeDiff, Int.reduceBEq, reduceCtorEq]
  have hloop : ∀ t : T, t.getP (Tr.path 0) = some (.int .i64 (k : Int)) → t.getP (Tr.path 5) = some (.slice none 0 0 0) → t.getP (Tr.path 6) = some (.int .i64 0) →
      wp (loopF (runC (callS Tryz.prog S0 lf (n + 2)) lf c26_l0) lf ⟨t, H, []⟩) fun x s' => x = .ex 0 ∧ s'.d = [] ∧ ∃ y, s'.t.getP (Tr.path 5) = some y ∧ Lst H s'.H 1 (rowsI (List.replicate k 6)) y ∧ Turns Z H s'.H := by
    intro t q0 q5 q6
    refine wp_loopF (fun j s' => ∃ i : Nat, j = k - i ∧ i ≤ k ∧ s'.d = [] ∧ s'.t.getP (Tr.path 0) = some (.int .i64 (k : Int)) ∧ s'.t.getP (Tr.path 6) = some (.int .i64 (i : Int)) ∧ ∃ y, s'.t.getP (Tr.path 5) = some y ∧ Lst H s'.H 1 (rowsI (List.replicate i 6)) y ∧ Turns Z H s'.H) ?_ lf k _ ⟨0, rfl, by omega, rfl, q0, q6, _, q5, Lst.nil _ _ _, Turns.refl _ _⟩ (by omega)
    rintro j ⟨t, HH, d⟩ ⟨i, rfl, hi, hd, q0, q6, y, q5, hy, tz⟩
    dsimp only at hd q0 q6 q5 hy tz
    subst hd
    by_cases hlt : i < k
    · have hlt' : (i : Int) < (k : Int) := by omega
      have w2 : IntKind.i64.wrap ((i : Int) + 1) = ((i + 1 : Nat) : Int) := by rw [wrap_i64 (by omega)]; omega
      obtain ⟨H', ea, hv', tz'⟩ := appI hy tz (by simp; omega) 6
      rw [← List.replicate_succ'] at hv'
      simp only [c26_l0, q0, q5, q6, hlt', w2, ea, sy, tup, ↓reduceIte, Nat.reduceEqDiff, Nat.reduceAdd, Nat.reduceSub, Nat.reduceMul, Nat.reduceLeDiff, Int.reduceBEq, reduceCtorEq]
      exact ⟨k - (i + 1), by omega, i + 1, rfl, by omega, trivial, trivial, by simp, _, rfl, hv', tz'⟩
    · have : i = k := by omega
      subst this
      simp only [c26_l0, q0, q5, q6, Int.lt_irrefl, sy, tup, ↓reduceIte, Nat.reduceEqDiff, Nat.reduceAdd, Nat.reduceSub, Nat.reduceMul, Nat.reduceLeDiff, Int.reduceBEq, reduceCtorEq]
      exact ⟨trivial, trivial, y, rfl, hy, tz⟩
  refine wp_ctx (F := fun r => seqC _ _ _ (blockC _ r)) (hloop _ ?_ ?_ ?_) ?_
  · simp only [sy, tup, ↓reduceIte, Nat.reduceEqDiff, Nat.reduceAdd, Nat.reduceSub, Nat.reduceMul, Nat.reduceLeDiff, Int.reduceBEq, reduceCtorEq]
  · simp only [sy, tup, ↓reduceIte, Nat.reduceEqDiff, Nat.reduceAdd, Nat.reduceSub, Nat.reduceMul, Nat.reduceLeDiff, Int.reduceBEq, reduceCtorEq]
  · simp only [sy, tup, ↓reduceIte, Nat.reduceEqDiff, Nat.reduceAdd, Nat.reduceSub, Nat.reduceMul, Nat.reduceLeDiff, Int.reduceBEq, reduceCtorEq]
  rintro x ⟨t, HH, d⟩ ⟨rfl, hd, y, q5, hy, tz⟩
  dsimp only at hd q5 hy tz
  subst hd
  obtain ⟨H1, ea, hv, t1⟩ := appI hy tz (by simp; omega) 50
  obtain ⟨p, ep, hP⟩ := picks_lst hv (by simp)
  have hok : disk.okSizes (sizes k) := by
    refine ⟨?_, ?_, ?_⟩
    · unfold sizes; simp
    · unfold sizes; simp; omega
    · intro x hx
      unfold sizes at hx
      simp at hx
      rcases hx with ⟨_, rfl⟩ | rfl <;> omega
  change disk.PicksAt H1 p (sizes k) disk.Z at hP
  rw [ep] at ea
  obtain ⟨v2, H2, e2, t2, hv2⟩ := disk.bnew_all H1 hP (pc := (sizes k).length) (po := 1) hlf n
  obtain ⟨v3, H3, e3, t3, hv3⟩ := disk.rbnew_all H2 (hP.turns t2) (pc := (sizes k).length) (po := 1) hlf n
  rcases hv2 with ⟨hno, _⟩ | ⟨_, b, ds, l, rfl, hR, hN⟩
  · exact absurd hok hno
  rcases hv3 with ⟨hno, _⟩ | ⟨_, c, es, q, rfl, hQ, hM⟩
  · exact absurd hok hno
  have e2' : callS Tryz.prog S0 lf (n + 2) 44 [.slice p (List.replicate k (6 : Int) ++ [50]).length (List.replicate k (6 : Int) ++ [50]).length 1] H1 = _ := e2
  have e3' : callS Tryz.prog S0 lf (n + 2) 62 [.slice p (List.replicate k (6 : Int) ++ [50]).length (List.replicate k (6 : Int) ++ [50]).length 1] H2 = _ := e3
  simp only [q5, ea, e2', e3', sy, tup, ↓reduceIte, Nat.reduceEqDiff, Nat.reduceAdd, Nat.reduceSub, Nat.reduceMul, Nat.reduceLeDiff, Int.reduceBEq, reduceCtorEq]
  refine ⟨trivial, .inr trivial, _, rfl, (t1.trans t2).trans t3, b, ds, l, c, es, q, rfl, hR.turns t3, hQ, fun x hx o => hN x hx (o.mono t1.next), fun x hx o => hM x hx ((o.mono t1.next).mono t2.next), fun x hx hc => hM x hc (hR.foot_old x hx)⟩
theorem same_zero {H : Heap} {b1 b2 : Bk} {L M : List Nat} (h1 : ∀ i, i < 16 → loadAt H ⟨b1, 3 + i⟩ 1 = some [.int .u8 ((L.getD i 0 : Nat) : Int)]) (h2 : ∀ i, i < 16 → loadAt H ⟨b2, 3 + i⟩ 1 = some [.int .u8 ((L.getD i 0 : Nat) : Int)]) (lf n : Nat) (hlf : 17 < lf) : callS Tryz.prog S0 lf (n + 1) 126 [.slice (some ⟨b1, 3⟩) 16 16 0, .slice (some ⟨b2, 3⟩) 16 16 0] H = some (.v (.bool true), H) := by
  obtain ⟨v1, H', e, rfl, rfl⟩ : ret (callS Tryz.prog S0 lf (n + 1) 126 [.slice (some ⟨b1, 3⟩) 16 16 0, .slice (some ⟨b2, 3⟩) 16 16 0] H) fun v1 H' => v1 = .bool true ∧ H' = H := by
    refine ret_call rfl c126_eq ?_
    simp only [c126, sy, tup, ↓reduceIte, Nat.reduceEqDiff, Nat.reduceAdd, Nat.reduceSub, Nat.reduceMul, Nat.reduceLeDiff, Int.reduceBEq, reduceCtorEq]
    have hloop : ∀ t : T, t.getP (Tr.path 0) = some (.slice (some ⟨b1, 3⟩) 16 16 0) → t.getP (Tr.path 1) = some (.slice (some ⟨b2, 3⟩) 16 16 0) → t.getP (Tr.path 5) = some (.int .i64 0) →
        wp (loopF (runC (callS Tryz.prog S0 lf n) lf c126_l0) lf ⟨t, H, []⟩) fun x s => x = .ex 0 ∧ s.d = [] ∧ s.H = H := by
      intro t q0 q1 q5
      refine wp_loopF (fun k s => ∃ i : Nat, k = 16 - i ∧ i ≤ 16 ∧ s.d = [] ∧ s.H = H ∧ s.t.getP (Tr.path 0) = some (.slice (some ⟨b1, 3⟩) 16 16 0) ∧ s.t.getP (Tr.path 1) = some (.slice (some ⟨b2, 3⟩) 16 16 0) ∧ s.t.getP (Tr.path 5) = some (.int .i64 (i : Int))) ?_ lf 16 _ ⟨0, rfl, by omega, rfl, rfl, q0, q1, q5⟩ (by omega)
      rintro k ⟨t, HH, d⟩ ⟨i, rfl, hi, hd, hH, q0, q1, q5⟩
      dsimp only at hd hH q0 q1 q5
      subst hd; subst hH
      by_cases hlt : i < 16
      · have hlt' : (i : Int) < ((16 : Nat) : Int) := by omega
        have hle' : i + 1 ≤ 16 := hlt
        have lk := h1 i hlt
        have lk' := h2 i hlt
        generalize L.getD i 0 = xx at lk lk'
        have w2 : IntKind.i64.wrap ((i : Int) + 1) = ((i + 1 : Nat) : Int) := by rw [wrap_i64 (by omega)]; omega
        simp only [c126_l0, q0, q1, q5, hlt', hle', w2, lk, lk', Nat.mul_one, sy, tup, ↓reduceIte, Nat.reduceEqDiff, Nat.reduceAdd, Nat.reduceSub, Nat.reduceMul, Nat.reduceLeDiff, Int.reduceBEq, reduceCtorEq]
        rw [endD_ok (by kernel_rfl) (by kernel_rfl)]
        simp only [q0, q1, q5, hle', w2, lk, lk', Nat.mul_one, sy, tup, ↓reduceIte, Nat.reduceEqDiff, Nat.reduceAdd, Nat.reduceSub, Nat.reduceMul, Nat.reduceLeDiff, Int.reduceBEq, reduceCtorEq]
        exact ⟨16 - (i + 1), by omega, i + 1, rfl, by omega, trivial, trivial, by simp [q0], by simp [q1], by simp⟩
      · have : i = 16 := by omega
        subst this
        have hnl : decide (((16 : Nat) : Int) < ((16 : Nat) : Int)) = false := rfl
        have hnl2 : decide (((16 : Nat) : Int) < 16) = false := rfl
        have hnl3 : decide ((16 : Int) < ((16 : Nat) : Int)) = false := rfl
        simp only [c126_l0, q0, q5, hnl, hnl2, hnl3, Nat.lt_irrefl, Int.lt_irrefl, sy, tup, ↓reduceIte, Nat.reduceEqDiff, Nat.reduceAdd, Nat.reduceSub, Nat.reduceMul, Nat.reduceLeDiff, Int.reduceBEq, reduceCtorEq]
        exact ⟨trivial, trivial, trivial⟩
    refine wp_ctx (F := fun r => seqC _ _ _ (blockC _ r)) (hloop _ ?_ ?_ ?_) ?_
    · simp only [sy, tup, ↓reduceIte, Nat.reduceEqDiff, Nat.reduceAdd, Nat.reduceSub, Nat.reduceMul, Nat.reduceLeDiff, Int.reduceBEq, reduceCtorEq]
    · simp only [sy, tup, ↓reduceIte, Nat.reduceEqDiff, Nat.reduceAdd, Nat.reduceSub, Nat.reduceMul, Nat.reduceLeDiff, Int.reduceBEq, reduceCtorEq]
    · simp only [sy, tup, ↓reduceIte, Nat.reduceEqDiff, Nat.reduceAdd, Nat.reduceSub, Nat.reduceMul, Nat.reduceLeDiff, Int.reduceBEq, reduceCtorEq]
    rintro x ⟨t, HH, d⟩ ⟨rfl, hd, hH⟩
    dsimp only at hd hH
    subst hd; subst hH
    simp only [sy, tup, ↓reduceIte, Nat.reduceEqDiff, Nat.reduceAdd, Nat.reduceSub, Nat.reduceMul, Nat.reduceLeDiff, Int.reduceBEq, reduceCtorEq]
    simp
  exact e
theorem ros_all' {H : Heap} {b : Bk} {m s r c : Int} {g : Bool} {S : List Nat} (h : RosAt H b m s r S c g) {i : Nat} (hi : i < 16) : loadAt H ⟨b, 3 + i⟩ 1 = some [.int .u8 ((S.getD i 0 : Nat) : Int)] := by
  have hl := h.len
  have := ros_st h hi
  rw [Nat.mul_one] at this
  rw [this]
  rw [List.getD_eq_getElem?_getD, List.getElem?_eq_getElem (by omega)]
  rfl
theorem ros_r {H : Heap} {b : Bk} {m s r : Int} {S : List Nat} {c : Int} {g : Bool} (h : RosAt H b m s r S c g) : loadAt H ⟨b, 2⟩ 1 = some [.int .i64 r] := by rw [ros_cut h (by omega) (by omega)]; rfl
theorem ros_g {H : Heap} {b : Bk} {m s r : Int} {S : List Nat} {c : Int} {g : Bool} (h : RosAt H b m s r S c g) : loadAt H ⟨b, 20⟩ 1 = some [.bool g] := by
  rw [ros_cut h (by omega) (by omega)]
  unfold rcells
  have e : 20 = [V.int .i64 m, .int .i64 s, .int .i64 r].length + ((sts S).length + 1) := by rw [sts_len, h.len]; rfl
  rw [e, List.drop_length_add_append, List.drop_length_add_append]
  rfl
theorem rosters_ok (H : Heap) {m s r c : Int} {g : Bool} {S : List Nat} (hS : S.length = 16) (lf n : Nat) (hlf : 17 < lf) : ret (callS Tryz.prog S0 lf (n + 2) 53 [ros m s r S c g, ros m s r S c g] H) fun v H' => v = .bool true ∧ Turns Z H H' := by
  have t2 := (Turns.add Z H (.rows false 21 [rcells m s r S c g])).addm (.rows false 21 [rcells m s r S c g])
  have g1 : ((H.add (.rows false 21 [rcells m s r S c g])).add (.rows false 21 [rcells m s r S c g])).get (.run H.next) = some (.rows false 21 [rcells m s r S c g]) := by rw [mem_add (by simp), Heap.get_add, if_pos rfl]
  have g2 : ((H.add (.rows false 21 [rcells m s r S c g])).add (.rows false 21 [rcells m s r S c g])).get (.run (H.next + 1)) = some (.rows false 21 [rcells m s r S c g]) := by rw [Heap.get_add, if_pos (by simp)]
  generalize hH2 : (H.add (.rows false 21 [rcells m s r S c g])).add (.rows false 21 [rcells m s r S c g]) = H2 at *
  have r1 : RosAt H2 (.run H.next) m s r S c g := ⟨g1, hS⟩
  have r2 : RosAt H2 (.run (H.next + 1)) m s r S c g := ⟨g2, hS⟩
  have hw := r_width hS m s r c g
  have eS := same_zero (M := []) (fun i hi => ros_all' r1 hi) (fun i hi => ros_all' r2 hi) lf n hlf
  have bb : bounds 16 16 none none none = some (0, 16, 16) := rfl
  refine ret_call rfl c53_eq ?_
  simp only [c53, ros, hw, hH2, ros_m r1, ros_m r2, ros_s r1, ros_s r2, ros_r r1, ros_r r2, ros_c r1, ros_c r2, ros_g r1, ros_g r2, bb, eS, sy, tup, ↓reduceIte, Nat.reduceEqDiff, Nat.reduceAdd, Nat.reduceSub, Nat.reduceMul, Nat.reduceLeDiff, Int.reduceBEq, reduceCtorEq]
  rw [endD_ok (by kernel_rfl) (by kernel_rfl)]
  simp only [sy, tup, ↓reduceIte, Nat.reduceEqDiff, Nat.reduceAdd, Nat.reduceSub, Nat.reduceMul, Nat.reduceLeDiff, Int.reduceBEq, reduceCtorEq]
  exact ⟨trivial, .inr trivial, _, rfl, rfl, t2⟩
theorem found_ok (H : Heap) {ev id m s r c : Int} {g : Bool} {S : List Nat} (hS : S.length = 16) (lf n : Nat) (hlf : 17 < lf) : ret (callS Tryz.prog S0 lf (n + 3) 41 [fnd ev id m s r S c g, fnd ev id m s r S c g] H) fun v H' => v = .bool true ∧ Turns Z H H' := by
  have t2 := (Turns.add Z H (.rows false 23 [fcells ev id m s r S c g])).addm (.rows false 23 [fcells ev id m s r S c g])
  have g1 : ((H.add (.rows false 23 [fcells ev id m s r S c g])).add (.rows false 23 [fcells ev id m s r S c g])).get (.run H.next) = some (.rows false 23 [fcells ev id m s r S c g]) := by rw [mem_add (by simp), Heap.get_add, if_pos rfl]
  have g2 : ((H.add (.rows false 23 [fcells ev id m s r S c g])).add (.rows false 23 [fcells ev id m s r S c g])).get (.run (H.next + 1)) = some (.rows false 23 [fcells ev id m s r S c g]) := by rw [Heap.get_add, if_pos (by simp)]
  generalize hH2 : (H.add (.rows false 23 [fcells ev id m s r S c g])).add (.rows false 23 [fcells ev id m s r S c g]) = H2 at *
  have r1 : FndAt H2 (.run H.next) ev id m s r S c g := ⟨g1, hS⟩
  have r2 : FndAt H2 (.run (H.next + 1)) ev id m s r S c g := ⟨g2, hS⟩
  have hw := f_width hS ev id m s r c g
  obtain ⟨v, H3, e3, rfl, t3⟩ := rosters_ok H2 (m := m) (s := s) (r := r) (c := c) (g := g) hS lf n hlf
  unfold ros at e3
  refine ret_call rfl c41_eq ?_
  simp only [c41, fnd, hw, hH2, fnd_ev r1, fnd_ev r2, fnd_id r1, fnd_id r2, fnd_r r1, fnd_r r2, e3, sy, tup, ↓reduceIte, Nat.reduceEqDiff, Nat.reduceAdd, Nat.reduceSub, Nat.reduceMul, Nat.reduceLeDiff, Int.reduceBEq, reduceCtorEq]
  exact ⟨trivial, .inr trivial, _, rfl, rfl, t2.trans t3⟩
end Go.Proofs.YtejgheoandfikaaGreat.draft
set_option linter.unusedVariables false
set_option linter.unusedSimpArgs false
set_option maxRecDepth 10000
namespace Go.Proofs.YtejgheoandfikaaGreat.disk
open Go.Am
structure Duo (H0 H : Heap) (b ds : Bk) (l : List Dv) (c es : Bk) (k : List Dv) (B : Bn) : Prop where
  m : Mine false H0 H b ds 1 l B
  r : Mine true H0 H c es 1 k B
  dis : ∀ x, BFoot b ds l x → ¬ BFoot c es k x
  pos : 0 < B.l.length
theorem Duo.ne {H0 H : Heap} {b ds c es : Bk} {l k : List Dv} {B : Bn} (h : Duo H0 H b ds l c es k B) : l ≠ [] := h.m.ne h.pos
theorem Duo.turns {H0 H H' : Heap} {b ds c es : Bk} {l k : List Dv} {B : Bn} (h : Duo H0 H b ds l c es k B) (t : Turns Z H H') : Duo H0 H' b ds l c es k B := ⟨h.m.turns t, h.r.turns t, h.dis, h.pos⟩
theorem Duo.r1 {H0 H H1 : Heap} {b ds c es : Bk} {l l' k : List Dv} {B B' : Bn} (h : Duo H0 H b ds l c es k B) (n : BNext H b ds 1 l H1 l' B') : Mine true H0 H1 c es 1 k B := h.r.turnsX n.turns (fun x hx hb => h.dis x hb hx) (fun x hx => h.m.new x hx)
theorem Duo.step {H0 H H1 H2 H3 : Heap} {b ds c es : Bk} {l l' k k' : List Dv} {B B' : Bn} (h : Duo H0 H b ds l c es k B) (n : BNext H b ds 1 l H1 l' B') (t : Turns Z H1 H2) (e : RNext true H2 c es 1 k H3 k' B') (hp : B'.l.length = B.l.length) : Duo H0 H3 b ds l' c es k' B' := by
  have m1 := (h.m.next n).turns t
  have d1 : ∀ x, BFoot b ds l' x → ¬ BFoot c es k x := fun x hx hc => by
    rcases n.foot x hx with hx | hx
    · exact h.dis x hx hc
    · exact hx (h.r.rep.foot_old x hc)
  have r2 := (h.r1 n).turns t
  refine ⟨m1.turnsX e.turns (fun x hx hc => d1 x hx hc) (fun x hx => r2.new x hx), r2.next e, fun x hx hc => ?_, ?_⟩
  · rcases e.foot x hc with hc | hc
    · exact d1 x hx hc
    · exact hc (m1.rep.foot_old x hx)
  · rw [hp]; exact h.pos
structure SmallD (D : Dev) : Prop where
  s : Small D.S
  l : SmallL D.L
def SmallB (B : Bn) : Prop := ∀ D ∈ B.l, SmallD D
theorem SmallB.new (P : List Int) : SmallB (newB P) := fun D hD => by
  obtain ⟨n, _, rfl⟩ := List.mem_map.1 hD
  refine ⟨fun x hx => ?_, fun w hw => by cases hw⟩
  rw [(List.mem_replicate.1 hx).2]
  exact Nat.pow_pos (by decide)
theorem SmallB.set {B : Bn} (h : SmallB B) (d : Int) {D : Dev} (hD : SmallD D) {st ar : Int} {dk : Bool} : SmallB ⟨B.l.set d.toNat D, st, ar, dk⟩ := fun E hE => by
  rcases List.mem_or_eq_of_mem_set hE with hE | rfl
  · exact h E hE
  · exact hD
theorem SmallB.step {B : Bn} (h : SmallB B) (d : Int) {D : Dev} (hD : SmallD D) : SmallB (B.step d D) := by
  unfold Bn.step
  split
  · exact h
  · exact h.set d hD
theorem SmallB.write {B : Bn} (h : SmallB B) (d n : Int) {x : Nat} (hx : x < 256 ^ 64) : SmallB (B.write d n x) := by
  unfold Bn.write
  split
  · rename_i hc
    have hd := h _ (tc_dev (lc_tc (rc_lc hc)))
    refine h.step d ?_
    unfold Dev.write
    split
    · refine ⟨hd.s, fun w hw => ?_⟩
      rcases List.mem_append.1 hw with hw | hw
      · exact hd.l w hw
      · rw [List.mem_singleton.1 hw]; exact hx
    · exact hd
  · exact h
theorem SmallB.fail {B : Bn} (h : SmallB B) (d : Int) : SmallB (B.fail d) := by
  unfold Bn.fail
  split
  · rename_i hc
    have hd := h _ (tc_dev hc)
    have hD : SmallD (B.dev d).fail := ⟨hd.s, fun w (hw : w ∈ ([] : List (Nat × Nat))) => absurd hw (List.not_mem_nil)⟩
    exact h.set d hD
  · exact h
theorem SmallB.arm {B : Bn} (h : SmallB B) (n : Int) : SmallB (B.arm n) := by
  unfold Bn.arm
  split
  · exact h
  · exact h
theorem SmallB.flush {B : Bn} (h : SmallB B) (d : Int) : SmallB (B.flush d) := by
  unfold Bn.flush
  split
  · rename_i hc
    have hd := h _ (tc_dev (lc_tc (rc_lc hc)))
    refine h.step d ?_
    unfold Dev.flush
    split
    · exact hd
    · exact ⟨Small.flush hd.s hd.l, fun w hw => absurd hw (List.not_mem_nil)⟩
  · exact h
theorem SmallB.read {B : Bn} (h : SmallB B) (hg : ∀ D ∈ B.l, Good D) (d n : Int) : B.read d n < 256 ^ 64 := by
  have h0 : 0 < 256 ^ 64 := Nat.pow_pos (by decide)
  unfold Bn.read
  split
  · rename_i hc
    have hm := tc_dev (lc_tc hc)
    have hd := h _ hm
    unfold Dev.read
    split
    · rw [read_flush (hg _ hm).ok]
      exact (Small.flush hd.s hd.l).getD _
    · exact h0
  · exact h0
theorem fail_len' (B : Bn) (d : Int) : (B.fail d).l.length = B.l.length := by unfold Bn.fail; split <;> simp [Bn.setd]
theorem flush_len' (B : Bn) (d : Int) : (B.flush d).l.length = B.l.length := by
  unfold Bn.flush
  split
  · unfold Bn.step; split <;> simp
  · rfl
theorem arm_len' (B : Bn) (n : Int) : (B.arm n).l.length = B.l.length := by unfold Bn.arm; split <;> rfl
end Go.Proofs.YtejgheoandfikaaGreat.disk
namespace Go.Proofs.YtejgheoandfikaaGreat.draft
open Go.Am
theorem blkOf_lt {N : Nat} {l : List Nat} (h : ∀ x ∈ l, x < 256) : blkOf N l < 256 ^ 64 := fillN_lt (fun i => getD_lt (l := rowOf N l) (row_lt h) i) 64 (Nat.le_refl _)
theorem SPut.blk_lt {p : SPut} (hp : p.ok) : p.blk < 256 ^ 64 := by
  have hraw : p.raw < 256 ^ 64 := by
    unfold SPut.raw
    split
    · exact hp.B
    · split
      · exact blkOf_lt (bodyN_lt _ _ _ _ _ _ _ _)
      · exact Nat.pow_pos (by decide)
  exact setByte_lt _ _ _ (disk.xo8_lt (byte_lt _ _) hp.x) (Nat.mod_lt _ (by decide)) hraw
theorem shr_u16' {a m : Nat} (hm : m < 16) : arith .shr (.int .u16 (a : Int)) (.int .u64 (m : Int)) = some (.int .u16 ((a / 2 ^ m : Nat) : Int)) := by
  have : min m 16 = m := by omega
  show some (V.int .u16 (.ofNat (Nat.div a (Nat.pow 2 (min m 16))))) = _
  rw [this]; rfl
def supCK : List CK := [.int .u64, .int .i64, .int .i64, .int .i64, .int .i64, .int .u8, .int .u8, .int .u8, .int .u8, .int .u8, .int .u8, .int .u8, .int .u8, .int .u8, .int .u8, .int .u8, .int .u8, .int .u8, .int .u8, .int .u8, .int .u8, .int .i64, .bool]
theorem cmp_scells {S : List Nat} (hS : S.length = 16) (id me m s r c : Int) (g : Bool) : cmpCells supCK (scells id me m s r S c g) (scells id me m s r S c g) = some true := by
  match S, hS with
  | [_, _, _, _, _, _, _, _, _, _, _, _, _, _, _, _], _ => simp [cmpCells, supCK, scells, rcells, sts, Df, Dg]
theorem cmp_z : cmpCells supCK zrow zrow = some true := cmp_scells (S := List.replicate 16 0) rfl 0 0 0 0 0 0 false
theorem both_super {B : disk.Bn} {N : Nat} (hN : N ≠ 0) (h17 : N ≤ 17) (hg : ∀ D ∈ B.l, disk.Good D) (hsm : disk.SmallB B) (d : Int) {lf : Nat} (hlf : 1000 < lf) (n : Nat) :
    ∃ (ev : Int) (row : List V) (e : Int), SRow row ∧ cmpCells supCK row row = some true ∧
      (∀ {H : Heap} {b ds : Bk} {so : Nat} {l : List disk.Dv}, disk.BRep H b ds so l B → l.length = N → ret (callS Tryz.prog S0 lf (n + 8) 37 [.ptr (some ⟨b, 0⟩), .int .i64 d] H) fun v H' => Turns Z H H' ∧ v = .tuple [.int .u64 ev, .agg row, .int .i64 e]) ∧
      (∀ {H : Heap} {b ds : Bk} {so : Nat} {l : List disk.Dv}, disk.Rep true H b ds so l B → l.length = N → ret (callS Tryz.prog S0 lf (n + 8) 38 [.ptr (some ⟨b, 0⟩), .int .i64 d] H) fun v H' => Turns Z H H' ∧ v = .tuple [.int .u64 ev, .agg row, .int .i64 e]) := by
  have ne : ∀ {l : List disk.Dv}, l.length = N → l ≠ [] := fun h e => hN (by rw [← h, e]; rfl)
  have hs := hsm.read hg
  cases hdk : B.dk with
  | true =>
    exact ⟨0, zrow, 8, SRow.z, cmp_z, fun h hl => gsuper_dark h (ne hl) hdk d lf n, fun h hl => rsuper_dark h hdk d lf n⟩
  | false =>
    cases hC : gC B N d with
    | none =>
      refine ⟨0, zrow, 7, SRow.z, cmp_z, fun {H b ds so l} h hl => ?_, fun {H b ds so l} h hl => ?_⟩
      · refine (gsuper_ok h (ne hl) hg hdk (by omega) d hlf n).mono ?_
        rintro v H' ⟨t, ⟨_, rfl⟩ | ⟨C, hC', _⟩⟩
        · exact ⟨t, rfl⟩
        · rw [hl, hC] at hC'; cases hC'
      · refine (rsuper_ok h (ne hl) hg hs hdk (by omega) d hlf n).mono ?_
        rintro v H' ⟨t, ⟨_, rfl⟩ | ⟨C, hC', _⟩⟩
        · exact ⟨t, rfl⟩
        · rw [hl, hC] at hC'; cases hC'
    | some C =>
      refine ⟨((sealN C : Nat) : Int), scells (fld C 0 8) (fld C 13 1) (fld C 8 1) (fld C 9 2) (fld C 11 2) (gSt C) (fld C 18 2) (((fld C 20 1 : Nat) : Int) == 1), 0, SRow.s (gSt_len C) _ _ _ _ _ _ _, cmp_scells (gSt_len C) _ _ _ _ _ _ _, fun {H b ds so l} h hl => ?_, fun {H b ds so l} h hl => ?_⟩
      · refine (gsuper_ok h (ne hl) hg hdk (by omega) d hlf n).mono ?_
        rintro v H' ⟨t, ⟨hC', _⟩ | ⟨C', hC', rfl⟩⟩
        · rw [hl, hC] at hC'; cases hC'
        · rw [hl, hC] at hC'; cases hC'
          exact ⟨t, rfl⟩
      · refine (rsuper_ok h (ne hl) hg hs hdk (by omega) d hlf n).mono ?_
        rintro v H' ⟨t, ⟨hC', _⟩ | ⟨C', hC', rfl⟩⟩
        · rw [hl, hC] at hC'; cases hC'
        · rw [hl, hC] at hC'; cases hC'
          exact ⟨t, rfl⟩
theorem both_look {B : disk.Bn} {N : Nat} (hN : N ≠ 0) (h17 : N ≤ 17) (hg : ∀ D ∈ B.l, disk.Good D) (hsm : disk.SmallB B) {lf : Nat} (hlf : 1000 < lf) (n : Nat) :
    ∃ (ev id m s r : Int) (S : List Nat) (c : Int) (g : Bool) (e : Int), S.length = 16 ∧
      (∀ {H : Heap} {b ds : Bk} {so : Nat} {l : List disk.Dv}, disk.BRep H b ds so l B → l.length = N → ret (callS Tryz.prog S0 lf (n + 9) 39 [.ptr (some ⟨b, 0⟩)] H) fun v H' => Turns Z H H' ∧ v = .tuple [fnd ev id m s r S c g, .int .i64 e]) ∧
      (∀ {H : Heap} {b ds : Bk} {so : Nat} {l : List disk.Dv}, disk.Rep true H b ds so l B → l.length = N → ret (callS Tryz.prog S0 lf (n + 9) 40 [.ptr (some ⟨b, 0⟩)] H) fun v H' => Turns Z H H' ∧ v = .tuple [fnd ev id m s r S c g, .int .i64 e]) := by
  have ne : ∀ {l : List disk.Dv}, l.length = N → l ≠ [] := fun h e => hN (by rw [← h, e]; rfl)
  have hs := hsm.read hg
  cases hdk : B.dk with
  | true =>
    exact ⟨0, 0, 0, 0, 0, List.replicate 16 0, 0, false, 8, rfl, fun h hl => look_dark h (ne hl) hdk lf n, fun h hl => rlook_dark h hdk lf n⟩
  | false =>
    cases hC : bestC B N (N - 1) with
    | none =>
      refine ⟨0, 0, 0, 0, 0, List.replicate 16 0, 0, false, 7, rfl, fun {H b ds so l} h hl => ?_, fun {H b ds so l} h hl => ?_⟩
      · refine (look_ok h (ne hl) hg hdk (by omega) hlf n).mono ?_
        rintro v H' ⟨t, ⟨_, rfl⟩ | ⟨C, hC', _⟩⟩
        · exact ⟨t, rfl⟩
        · rw [hl, hC] at hC'; cases hC'
      · refine (rlook_ok h (ne hl) hg hs hdk (by omega) hlf n).mono ?_
        rintro v H' ⟨t, ⟨_, rfl⟩ | ⟨C, hC', _⟩⟩
        · exact ⟨t, rfl⟩
        · rw [hl, hC] at hC'; cases hC'
    | some C =>
      refine ⟨sealN C, fld C 0 8, fld C 8 1, fld C 9 2, fld C 11 2, (lostS B N C (fld C 8 1)).1, ((lostS B N C (fld C 8 1)).2 : Int), (((fld C 20 1 : Nat) : Int) == 1), 0, lostS_len B N C _, fun {H b ds so l} h hl => ?_, fun {H b ds so l} h hl => ?_⟩
      · refine (look_ok h (ne hl) hg hdk (by omega) hlf n).mono ?_
        rintro v H' ⟨t, ⟨hC', _⟩ | ⟨C', hC', rfl⟩⟩
        · rw [hl, hC] at hC'; cases hC'
        · rw [hl, hC] at hC'; cases hC'
          exact ⟨t, by rw [hl]; rfl⟩
      · refine (rlook_ok h (ne hl) hg hs hdk (by omega) hlf n).mono ?_
        rintro v H' ⟨t, ⟨hC', _⟩ | ⟨C', hC', rfl⟩⟩
        · rw [hl, hC] at hC'; cases hC'
        · rw [hl, hC] at hC'; cases hC'
          exact ⟨t, by rw [hl]; rfl⟩
end Go.Proofs.YtejgheoandfikaaGreat.draft
set_option linter.unusedVariables false
set_option linter.unusedSimpArgs false
set_option maxRecDepth 10000
namespace Go.Proofs.YtejgheoandfikaaGreat.draft
open Go.Am
noncomputable def c5_l0 : C := .seq (.seq (.reg [
 mv 110 15,
 mv 111 10,
 qo 112 (.c (callF (ff 36) [(tt 111)])) [pp 111],
 qo 113 (.p (arF .leq (tt 110) (tt 112))) [pp 110, pp 112]]) (
 .cond (tt 113) (.skip) (.exit 4))) (
 .seq (.block 5 (.seq (.reg [
 mv 117 9,
 mv 118 15,
 qo 119 (.c (callF (ff 37) [(tt 117), (tt 118)])) [pp 117, pp 118],
 mv 116 119,
 qo 120 (.p (extF (tt 116) 0)) [pp 116],
 qo 121 (.p (extF (tt 116) 1)) [pp 116],
 qo 122 (.p (extF (tt 116) 2)) [pp 116],
 qo 17 (.m (allocF 23 [.int .u64 0, .int .i64 0, .int .i64 0, .int .i64 0, .int .i64 0, .int .u8 0, .int .u8 0, .int .u8 0, .int .u8 0, .int .u8 0, .int .u8 0, .int .u8 0, .int .u8 0, .int .u8 0, .int .u8 0, .int .u8 0, .int .u8 0, .int .u8 0, .int .u8 0, .int .u8 0, .int .u8 0, .int .i64 0, .bool false])) [],
 mv 16 120,
 qn (.a (storeF (tt 17) (tt 121) 23)) [pp 17, pp 121],
 mv 18 122]) (
 .seq (.reg [
 mv 124 10,
 mv 125 15,
 qo 126 (.c (callF (ff 38) [(tt 124), (tt 125)])) [pp 124, pp 125],
 mv 123 126,
 qo 127 (.p (extF (tt 123) 0)) [pp 123],
 qo 128 (.p (extF (tt 123) 1)) [pp 123],
 qo 129 (.p (extF (tt 123) 2)) [pp 123],
 qo 20 (.m (allocF 23 [.int .u64 0, .int .i64 0, .int .i64 0, .int .i64 0, .int .i64 0, .int .u8 0, .int .u8 0, .int .u8 0, .int .u8 0, .int .u8 0, .int .u8 0, .int .u8 0, .int .u8 0, .int .u8 0, .int .u8 0, .int .u8 0, .int .u8 0, .int .u8 0, .int .u8 0, .int .u8 0, .int .u8 0, .int .i64 0, .bool false])) [],
 mv 19 127,
 qn (.a (storeF (tt 20) (tt 128) 23)) [pp 20, pp 128],
 mv 21 129]) (
 .seq (.reg [
 mv 130 16,
 mv 131 19,
 qo 132 (.p (eqcF true false [.int .u64] (tt 130) (tt 131))) [pp 130, pp 131],
 mv 133 132,
 qg 134 (.r (loadF (tt 17) 23 .ag)) 133 false [pp 17],
 qg 135 (.r (loadF (tt 20) 23 .ag)) 133 false [pp 20],
 qg 136 (.p (eqcF true true [.int .u64, .int .i64, .int .i64, .int .i64, .int .i64, .int .u8, .int .u8, .int .u8, .int .u8, .int .u8, .int .u8, .int .u8, .int .u8, .int .u8, .int .u8, .int .u8, .int .u8, .int .u8, .int .u8, .int .u8, .int .u8, .int .i64, .bool] (tt 134) (tt 135))) 133 false [pp 134, pp 135],
 qo 137 (.p (pickF (tt 133) (.c (.bool true)) (tt 136))) [pp 133, pp 136],
 mv 138 137,
 mg 139 18 138 false,
 mg 140 21 138 false,
 qg 141 (.p (eqcF true false [.int .i64] (tt 139) (tt 140))) 138 false [pp 139, pp 140],
 qo 142 (.p (pickF (tt 138) (.c (.bool true)) (tt 141))) [pp 138, pp 141]]) (
 .cond (tt 142) (.seq (.reg [
 qo 8 (.p (S.get (.c (.bool false)))) []]) (
 .ret)) (.skip)))))) (
 .reg [
 mv 114 15,
 qo 115 (.p (arF .add (tt 114) (ii 1))) [pp 114],
 mv 15 115]))
noncomputable def c5_l1 : C := .seq (.seq (.reg [
 mv 79 14,
 qo 80 (.p (arF .lss (tt 79) (ii 8))) [pp 79]]) (
 .cond (tt 80) (.skip) (.exit 2))) (
 .seq (.block 3 (.seq (.reg [
 mv 83 2,
 mv 84 14,
 qo 85 (.p (convF .u64 (tt 84))) [pp 84],
 qo 86 (.p (arF .shr (tt 83) (tt 85))) [pp 83, pp 85],
 qo 87 (.p (arF .and (tt 86) (.c (.int .u16 1)))) [pp 86],
 qo 88 (.p (eqcF false false [.int .u16] (tt 87) (.c (.int .u16 1)))) [pp 87]]) (
 .cond (tt 88) (.seq (.reg [
 mv 89 9,
 mv 90 14,
 qo 91 (.c (callF (ff 30) [(tt 89), (tt 90)])) [pp 89, pp 90]]) (
 .reg [
 mv 92 10,
 mv 93 14,
 qo 94 (.c (callF (ff 31) [(tt 92), (tt 93)])) [pp 92, pp 93]])) (.skip)))) (
 .reg [
 mv 81 14,
 qo 82 (.p (arF .add (tt 81) (ii 1))) [pp 81],
 mv 14 82]))
noncomputable def c5_l2 : C := .seq (.seq (.reg [
 mv 37 12,
 mv 38 1,
 qo 39 (.p (lenF (tt 38))) [pp 38],
 qo 40 (.p (arF .lss (tt 37) (tt 39))) [pp 37, pp 39],
 mv 41 40,
 mg 42 12 41 true,
 qg 43 (.p (arF .lss (tt 42) (ii 40))) 41 true [pp 42],
 qo 44 (.p (pickF (tt 41) (tt 43) (.c (.bool false)))) [pp 41, pp 43]]) (
 .cond (tt 44) (.skip) (.exit 0))) (
 .seq (.block 1 (.seq (.reg [
 mv 47 1,
 mv 48 12,
 qo 49 (.p (iaddrSF (tt 47) (tt 48) 93)) [pp 47, pp 48],
 qo 50 (.r (loadF (tt 49) 93 .ag)) [pp 49],
 qo 51 (.c (callF (ff 27) [(tt 50)])) [pp 50],
 qo 13 (.m (allocF 64 [.blk 0])) [],
 qn (.a (storeF (tt 13) (tt 51) 64)) [pp 13, pp 51]]) (
 .seq (.regD [
 mv 52 9,
 mv 53 1,
 mv 54 12,
 qo 55 (.p (iaddrSF (tt 53) (tt 54) 93)) [pp 53, pp 54],
 qo 56 (.p (faddrF (tt 55) 0)) [pp 55],
 qo 57 (.r (loadF (tt 56) 1 .sc)) [pp 56],
 mv 58 1,
 mv 59 12,
 qo 60 (.p (iaddrSF (tt 58) (tt 59) 93)) [pp 58, pp 59],
 qo 61 (.p (faddrF (tt 60) 1)) [pp 60],
 qo 62 (.r (loadF (tt 61) 1 .sc)) [pp 61],
 qo 63 (.r (loadF (tt 13) 64 .bk)) [pp 13],
 qo 64 (.c (callF (ff 28) [(tt 52), (tt 57), (tt 62), (tt 63)])) [pp 52, pp 57, pp 62, pp 63],
 mv 65 10,
 mv 66 1,
 mv 67 12,
 qo 68 (.p (iaddrSF (tt 66) (tt 67) 93)) [pp 66, pp 67],
 qo 69 (.p (faddrF (tt 68) 0)) [pp 68],
 qo 70 (.r (loadF (tt 69) 1 .sc)) [pp 69],
 mv 71 1,
 mv 72 12,
 qo 73 (.p (iaddrSF (tt 71) (tt 72) 93)) [pp 71, pp 72],
 qo 74 (.p (faddrF (tt 73) 1)) [pp 73],
 qo 75 (.r (loadF (tt 74) 1 .sc)) [pp 74],
 qo 76 (.r (loadF (tt 13) 64 .bk)) [pp 13],
 qo 77 (.c (callF (ff 29) [(tt 65), (tt 70), (tt 75), (tt 76)])) [pp 65, pp 70, pp 75, pp 76],
 qo 78 (.p (eqcF true false [.int .i64] (tt 64) (tt 77))) [pp 64, pp 77]] [0, 0, 0, 6, 14, 30, 0, 0, 192, 448, 960, 0, 4095, 0, 0, 0, 49152, 114688, 245760, 0, 0, 1572864, 3670016, 7864320, 0, 33554431, 67108863]) (
 .cond (tt 78) (.seq (.reg [
 qo 8 (.p (S.get (.c (.bool false)))) []]) (
 .ret)) (.skip))))) (
 .reg [
 mv 45 12,
 qo 46 (.p (arF .add (tt 45) (ii 1))) [pp 45],
 mv 12 46]))
noncomputable def c5 : CFn := ⟨[.tmp (pp 8)],
 .seq (.reg [
 qo 8 (.p (S.get (.c (.bool false)))) []]) (
 .seq (.reg [
 mv 27 0,
 qo 28 (.p (arF .rem (tt 27) (.c (.int .u8 4)))) [pp 27],
 qo 29 (.p (convF .i64 (tt 28))) [pp 28],
 qo 30 (.p (arF .add (ii 3) (tt 29))) [pp 29],
 qo 31 (.c (callF (ff 26) [(tt 30)])) [pp 30],
 mv 26 31,
 qo 32 (.p (extF (tt 26) 0)) [pp 26],
 qo 33 (.p (extF (tt 26) 1)) [pp 26],
 qo 34 (.p (extF (tt 26) 2)) [pp 26],
 mv 9 32,
 mv 10 33,
 mv 11 34]) (
 .seq (.seq (.reg [
 mv 35 11,
 qo 36 (.p (unF .not (tt 35))) [pp 35]]) (
 .cond (tt 36) (.seq (.reg [
 qo 8 (.p (S.get (.c (.bool false)))) []]) (
 .ret)) (.skip))) (
 .seq (.seq (.reg [
 qo 12 (.p (S.get (ii 0))) []]) (
 .block 0 (.loop c5_l2))) (
 .seq (.seq (.reg [
 qo 14 (.p (S.get (ii 0))) []]) (
 .block 2 (.loop c5_l1))) (
 .seq (.seq (.reg [
 mv 95 3]) (
 .cond (tt 95) (.seq (.reg [
 mv 96 9,
 qo 97 (.c (callF (ff 32) [(tt 96), (ii 1)])) [pp 96]]) (
 .seq (.reg [
 mv 98 10,
 qo 99 (.c (callF (ff 33) [(tt 98), (ii 1)])) [pp 98]]) (
 .seq (.reg [
 mv 100 9,
 mv 101 0,
 qo 102 (.p (arF .rem (tt 101) (.c (.int .u8 4)))) [pp 101],
 qo 103 (.p (convF .i64 (tt 102))) [pp 102],
 qo 104 (.c (callF (ff 34) [(tt 100), (tt 103)])) [pp 100, pp 103]]) (
 .reg [
 mv 105 10,
 mv 106 0,
 qo 107 (.p (arF .rem (tt 106) (.c (.int .u8 4)))) [pp 106],
 qo 108 (.p (convF .i64 (tt 107))) [pp 107],
 qo 109 (.c (callF (ff 35) [(tt 105), (tt 108)])) [pp 105, pp 108]])))) (.skip))) (
 .seq (.seq (.reg [
 qo 15 (.p (S.get (ii (-1)))) []]) (
 .block 4 (.loop c5_l0))) (
 .seq (.reg [
 mv 144 9,
 qo 145 (.c (callF (ff 39) [(tt 144)])) [pp 144],
 mv 143 145,
 qo 146 (.p (extF (tt 143) 0)) [pp 143],
 qo 147 (.p (extF (tt 143) 1)) [pp 143],
 qo 22 (.m (allocF 23 [.int .u64 0, .int .u64 0, .int .i64 0, .int .i64 0, .int .i64 0, .int .u8 0, .int .u8 0, .int .u8 0, .int .u8 0, .int .u8 0, .int .u8 0, .int .u8 0, .int .u8 0, .int .u8 0, .int .u8 0, .int .u8 0, .int .u8 0, .int .u8 0, .int .u8 0, .int .u8 0, .int .u8 0, .int .i64 0, .bool false])) [],
 qn (.a (storeF (tt 22) (tt 146) 23)) [pp 22, pp 146],
 mv 23 147]) (
 .seq (.reg [
 mv 149 10,
 qo 150 (.c (callF (ff 40) [(tt 149)])) [pp 149],
 mv 148 150,
 qo 151 (.p (extF (tt 148) 0)) [pp 148],
 qo 152 (.p (extF (tt 148) 1)) [pp 148],
 qo 24 (.m (allocF 23 [.int .u64 0, .int .u64 0, .int .i64 0, .int .i64 0, .int .i64 0, .int .u8 0, .int .u8 0, .int .u8 0, .int .u8 0, .int .u8 0, .int .u8 0, .int .u8 0, .int .u8 0, .int .u8 0, .int .u8 0, .int .u8 0, .int .u8 0, .int .u8 0, .int .u8 0, .int .u8 0, .int .u8 0, .int .i64 0, .bool false])) [],
 qn (.a (storeF (tt 24) (tt 151) 23)) [pp 24, pp 151],
 mv 25 152]) (
 .seq (.reg [
 qo 153 (.r (loadF (tt 22) 23 .ag)) [pp 22],
 qo 154 (.r (loadF (tt 24) 23 .ag)) [pp 24],
 qo 155 (.c (callF (ff 41) [(tt 153), (tt 154)])) [pp 153, pp 154],
 mv 156 155,
 mg 157 23 156 true,
 mg 158 25 156 true,
 qg 159 (.p (eqcF false false [.int .i64] (tt 157) (tt 158))) 156 true [pp 157, pp 158],
 qo 160 (.p (pickF (tt 156) (tt 159) (.c (.bool false)))) [pp 156, pp 159],
 mv 161 160,
 qg 162 (.c (callF (ff 42) [])) 161 true [],
 qo 163 (.p (pickF (tt 161) (tt 162) (.c (.bool false)))) [pp 161, pp 162],
 mv 8 163]) (
 .ret))))))))))⟩
theorem c5_eq : fnOf Tryz.prog 5 = some c5 := by kernel_rfl
theorem glives_ok (lf n : Nat) (H : Heap) : callS Tryz.prog S0 lf (n + 1) 42 [] H = some (.v (.bool true), H) := rfl
section
variable {H : Heap} {lp : Option Ptr} {lc : Nat} {A : List SPut} {b ds c es : Bk} {K u dead : Nat} {dark : Bool}
theorem looks_put (hA : SPutsAt H lp A) {lf : Nat} (hlf : 1000 < lf) (n : Nat) {l k : List disk.Dv} {B : disk.Bn} {HS : Heap} (hD : disk.Duo H HS b ds l c es k B) (ok : disk.Bok 0 B) (sm : disk.SmallB B) (hK : B.l.length = K + 1) :
    ∀ t : T, t.getP (Tr.path 0) = some (.int .u8 (u : Int)) → t.getP (Tr.path 1) = some (.slice lp A.length lc 0) → t.getP (Tr.path 2) = some (.int .u16 (dead : Int)) → t.getP (Tr.path 3) = some (.bool dark) → t.getP (Tr.path 9) = some (.ptr (some ⟨b, 0⟩)) → t.getP (Tr.path 10) = some (.ptr (some ⟨c, 0⟩)) → t.getP (Tr.path 12) = some (.int .i64 0) →
      wp (loopF (runC (callS Tryz.prog S0 lf (n + 9)) lf c5_l2) lf ⟨t, HS, []⟩) fun x s' => x = .ex 0 ∧ s'.d = [] ∧ s'.t.getP (Tr.path 0) = some (.int .u8 (u : Int)) ∧ s'.t.getP (Tr.path 2) = some (.int .u16 (dead : Int)) ∧ s'.t.getP (Tr.path 3) = some (.bool dark) ∧ s'.t.getP (Tr.path 9) = some (.ptr (some ⟨b, 0⟩)) ∧ s'.t.getP (Tr.path 10) = some (.ptr (some ⟨c, 0⟩)) ∧ ∃ i l k B, i ≤ 40 ∧ disk.Duo H s'.H b ds l c es k B ∧ disk.Bok i B ∧ disk.SmallB B ∧ B.l.length = K + 1 := by
  intro t q0 q1 q2 q3 q9 q10 q12
  refine wp_loopF (fun j s' => ∃ i l k B, i + j = 40 ∧ s'.d = [] ∧ s'.t.getP (Tr.path 0) = some (.int .u8 (u : Int)) ∧ s'.t.getP (Tr.path 1) = some (.slice lp A.length lc 0) ∧ s'.t.getP (Tr.path 2) = some (.int .u16 (dead : Int)) ∧ s'.t.getP (Tr.path 3) = some (.bool dark) ∧ s'.t.getP (Tr.path 9) = some (.ptr (some ⟨b, 0⟩)) ∧ s'.t.getP (Tr.path 10) = some (.ptr (some ⟨c, 0⟩)) ∧ s'.t.getP (Tr.path 12) = some (.int .i64 ((i : Nat) : Int)) ∧ disk.Duo H s'.H b ds l c es k B ∧ disk.Bok i B ∧ disk.SmallB B ∧ B.l.length = K + 1) ?_ lf 40 _ ⟨0, l, k, B, rfl, rfl, q0, q1, q2, q3, q9, q10, q12, hD, ok, sm, hK⟩ (by omega)
  clear q0 q1 q2 q3 q9 q10 q12 t hD ok sm hK
  rintro j ⟨t, HH, dd⟩ ⟨i, l, k, B, hi, rfl, q0, q1, q2, q3, q9, q10, q12, hD, ok, sm, hK⟩
  dsimp only at q0 q1 q2 q3 q9 q10 q12 hD
  by_cases hiA : i < A.length
  · cases j with
    | zero =>
      have hi : i = 40 := by omega
      subst hi
      have hg : ¬ ((40 : Int) < 40) := by decide
      have q12 : t.getP (Tr.path 12) = some (.int .i64 40) := q12
      have hiA' : (40 : Int) < (A.length : Int) := by omega
      simp only [c5_l2, q0, q1, q2, q3, q9, q10, q12, hiA', hg, sy, tup, ↓reduceIte, Nat.reduceEqDiff, Nat.reduceAdd, Nat.reduceSub, Nat.reduceMul, Nat.reduceLeDiff, Int.reduceBEq, reduceCtorEq]
      exact ⟨trivial, trivial, trivial, trivial, trivial, trivial, trivial, 40, l, k, B, Nat.le_refl _, hD, ok, sm, hK⟩
    | succ j =>
      have h40 : (i : Int) < 40 := by omega
      have hi1 : i + 1 ≤ A.length := hiA
      have hok := hA.ok A[i] (List.getElem_mem _)
      obtain ⟨vb, HB, eb, tb, rfl⟩ := pblk_ok HH A[i] hok (lf := lf) (by omega) (n + 2)
      change callS Tryz.prog S0 lf (n + 9) _ _ _ = _ at eb
      obtain ⟨x, hpx, la, _, _⟩ := hA.load hD.m.t hiA
      have gc0 : (HB.add (.rows false 64 [[.blk 0]])).get (.run HB.next) = some (.rows false 64 [[.blk 0]]) := by rw [Heap.get_add, if_pos rfl]
      have sc := disk.cell_store (v := A[i].blk) gc0
      have tc : Turns Z HB ((HB.add (.rows false 64 [[.blk 0]])).set (.run HB.next) (.rows false 64 [[.blk A[i].blk]])) := (Turns.add Z HB _).setnew (Nat.le_refl _) _
      have gc : ((HB.add (.rows false 64 [[.blk 0]])).set (.run HB.next) (.rows false 64 [[.blk A[i].blk]])).get (.run HB.next) = some (.rows false 64 [[.blk A[i].blk]]) := by rw [Heap.get_set, if_pos rfl]
      have nc : ((HB.add (.rows false 64 [[.blk 0]])).set (.run HB.next) (.rows false 64 [[.blk A[i].blk]])).next = HB.next + 1 := by simp
      obtain ⟨K0, hK0⟩ : ∃ K, (HB.add (.rows false 64 [[.blk 0]])).set (.run HB.next) (.rows false 64 [[.blk A[i].blk]]) = K := ⟨_, rfl⟩
      rw [hK0] at sc tc gc nc
      have hD0 := hD.turns (tb.trans tc)
      have hDB := hD.turns tb
      obtain ⟨x0, hpx0, _, lD0, lN0⟩ := hA.load hD0.m.t hiA
      have hx0 : x0 = x := by rw [hpx] at hpx0; cases hpx0; rfl
      subst hx0
      have lX0 : loadAt K0 ⟨.run HB.next, 0⟩ 64 = some [.blk A[i].blk] := by rw [loadAt_eq gc (r := [.blk A[i].blk]) rfl]; exact Dy _ _
      have hst := ok.st
      have hst' : 0 ≤ B.st ∧ B.st ≤ 100000 := by omega
      have gg := ok.good (by omega)
      obtain ⟨v1, K1, e1, rfl, l', n1⟩ := disk.bwrite_all hD0.m.rep hD0.ne gg ok.ar hst' A[i].D A[i].N A[i].blk hlf (n + 3)
      change callS Tryz.prog S0 lf (n + 9) _ _ _ = _ at e1
      have nfoot : ¬ disk.BFoot b ds l (.run HB.next) := fun hc => Heap.not_old (Nat.le_refl _) (hDB.m.rep.foot_old _ hc)
      have gc1 : K1.get (.run HB.next) = some (.rows false 64 [[.blk A[i].blk]]) := (n1.turns.same (.run HB.next) (by show _ < _; omega) nfoot).trans gc
      have lX1 : loadAt K1 ⟨.run HB.next, 0⟩ 64 = some [.blk A[i].blk] := by rw [loadAt_eq gc1 (r := [.blk A[i].blk]) rfl]; exact Dy _ _
      obtain ⟨x1, hpx1, _, lD1, lN1⟩ := hA.load (hD0.m.next n1).t hiA
      have hx1 : x1 = x0 := by rw [hpx] at hpx1; cases hpx1; rfl
      subst hx1
      have r1 := hD0.r1 n1
      obtain ⟨v2, K2, e2, rfl, k', n2⟩ := disk.rbwrite r1.rep gg ok.ar hst' A[i].D A[i].N A[i].blk hlf (n + 6)
      change callS Tryz.prog S0 lf (n + 9) _ _ _ = _ at e2
      have hlen : (B.write A[i].D A[i].N A[i].blk).l.length = B.l.length := (disk.same_write B _ _ _).len
      have hD2 := hD0.step n1 (Turns.refl _ _) n2 hlen
      have hwr : IntKind.i64.wrap ((i : Int) + 1) = (i : Int) + 1 := wrap_i64 (by omega)
      rw [hpx] at q1
      have hwid : unc .ag A[i].row = some (.agg A[i].row) := rfl
      have okw := ok.write A[i].D A[i].N A[i].blk
      have smw := sm.write A[i].D A[i].N (SPut.blk_lt hok)
      have hKw := hlen.trans hK
      generalize A[i].row = R at la eb hwid
      generalize A[i].blk = X at *
      generalize A[i].D = DD at *
      generalize A[i].N = NN at *
      obtain ⟨q, hqd⟩ : ∃ q : List (Option V × Option V), q = [(loadF (.t (Tr.path 69)) 1 .sc (Tr.setP (Tr.path 69) (.ptr (some ⟨x1, i * 93⟩)) .e) K0, some (.int .i64 DD)), (loadF (.t (Tr.path 69)) 1 .sc (Tr.setP (Tr.path 69) (.ptr (some ⟨x1, i * 93⟩)) .e) K1, some (.int .i64 DD)),
        (loadF (.t (Tr.path 74)) 1 .sc (Tr.setP (Tr.path 74) (.ptr (some ⟨x1, i * 93 + 1⟩)) .e) K0, some (.int .i64 NN)), (loadF (.t (Tr.path 74)) 1 .sc (Tr.setP (Tr.path 74) (.ptr (some ⟨x1, i * 93 + 1⟩)) .e) K1, some (.int .i64 NN)),
        (loadF (.t (Tr.path 13)) 64 .bk (Tr.setP (Tr.path 13) (.ptr (some ⟨.run HB.next, 0⟩)) .e) K0, some (.blk X)), (loadF (.t (Tr.path 13)) 64 .bk (Tr.setP (Tr.path 13) (.ptr (some ⟨.run HB.next, 0⟩)) .e) K1, some (.blk X))] := ⟨_, rfl⟩
      have hq : ∀ p ∈ q, p.1 = p.2 := by
        rw [hqd]
        intro p hp
        simp only [List.mem_cons, List.not_mem_nil, or_false] at hp
        rcases hp with rfl | rfl | rfl | rfl | rfl | rfl
        · simp only [lD0, sy, tup, ↓reduceIte, Nat.reduceEqDiff, Nat.reduceAdd, Nat.reduceSub, Nat.reduceMul, Nat.reduceLeDiff, Int.reduceBEq, reduceCtorEq]
        · simp only [lD1, sy, tup, ↓reduceIte, Nat.reduceEqDiff, Nat.reduceAdd, Nat.reduceSub, Nat.reduceMul, Nat.reduceLeDiff, Int.reduceBEq, reduceCtorEq]
        · simp only [lN0, sy, tup, ↓reduceIte, Nat.reduceEqDiff, Nat.reduceAdd, Nat.reduceSub, Nat.reduceMul, Nat.reduceLeDiff, Int.reduceBEq, reduceCtorEq]
        · simp only [lN1, sy, tup, ↓reduceIte, Nat.reduceEqDiff, Nat.reduceAdd, Nat.reduceSub, Nat.reduceMul, Nat.reduceLeDiff, Int.reduceBEq, reduceCtorEq]
        · simp only [lX0, sy, tup, ↓reduceIte, Nat.reduceEqDiff, Nat.reduceAdd, Nat.reduceSub, Nat.reduceMul, Nat.reduceLeDiff, Int.reduceBEq, reduceCtorEq]
        · simp only [lX1, sy, tup, ↓reduceIte, Nat.reduceEqDiff, Nat.reduceAdd, Nat.reduceSub, Nat.reduceMul, Nat.reduceLeDiff, Int.reduceBEq, reduceCtorEq]
      generalize B.wc DD NN = wc at *
      simp only [c5_l2, q0, q1, q2, q3, q9, q10, q12, hiA, h40, hi1, la, hwid, eb, sc, hK0, lD0, lN0, lX0, e1, lD1, lN1, lX1, e2, sy, tup, ↓reduceIte, Nat.reduceEqDiff, Nat.reduceAdd, Nat.reduceSub, Nat.reduceMul, Nat.reduceLeDiff, Int.reduceBEq, reduceCtorEq]
      rw [endD_q (q := q) (by kernel_rfl) (by rw [hqd]; kernel_rfl)]
      simp only [q0, q1, q2, q3, q9, q10, q12, hwr, sy, tup, ↓reduceIte, Nat.reduceEqDiff, Nat.reduceAdd, Nat.reduceSub, Nat.reduceMul, Nat.reduceLeDiff, Int.reduceBEq, reduceCtorEq]
      exact ⟨j, Nat.lt_succ_self j, i + 1, l', k', _, by omega, trivial, trivial, by rw [hpx], trivial, trivial, trivial, trivial, rfl, hD2.turns ((Turns.refl Z K2).owe hq), okw, smw, hKw⟩
  · have hg : ¬ (i < A.length) := hiA
    simp only [c5_l2, q0, q1, q2, q3, q9, q10, q12, hg, sy, tup, ↓reduceIte, Nat.reduceEqDiff, Nat.reduceAdd, Nat.reduceSub, Nat.reduceMul, Nat.reduceLeDiff, Int.reduceBEq, reduceCtorEq]
    exact ⟨trivial, trivial, trivial, trivial, trivial, trivial, trivial, i, l, k, B, by omega, hD, ok, sm, hK⟩
theorem looks_fail (hdead : dead < 65536) {lf : Nat} (hlf : 1000 < lf) (n : Nat) {l k : List disk.Dv} {B : disk.Bn} {HS : Heap} (hD : disk.Duo H HS b ds l c es k B) {j0 : Nat} (hj : j0 ≤ 40) (ok : disk.Bok j0 B) (sm : disk.SmallB B) (hK : B.l.length = K + 1) :
    ∀ t : T, t.getP (Tr.path 0) = some (.int .u8 (u : Int)) → t.getP (Tr.path 2) = some (.int .u16 (dead : Int)) → t.getP (Tr.path 3) = some (.bool dark) → t.getP (Tr.path 9) = some (.ptr (some ⟨b, 0⟩)) → t.getP (Tr.path 10) = some (.ptr (some ⟨c, 0⟩)) → t.getP (Tr.path 14) = some (.int .i64 0) →
      wp (loopF (runC (callS Tryz.prog S0 lf (n + 9)) lf c5_l1) lf ⟨t, HS, []⟩) fun x s' => x = .ex 2 ∧ s'.d = [] ∧ s'.t.getP (Tr.path 0) = some (.int .u8 (u : Int)) ∧ s'.t.getP (Tr.path 3) = some (.bool dark) ∧ s'.t.getP (Tr.path 9) = some (.ptr (some ⟨b, 0⟩)) ∧ s'.t.getP (Tr.path 10) = some (.ptr (some ⟨c, 0⟩)) ∧ ∃ i l k B, i ≤ 48 ∧ disk.Duo H s'.H b ds l c es k B ∧ disk.Bok i B ∧ disk.SmallB B ∧ B.l.length = K + 1 := by
  intro t q0 q2 q3 q9 q10 q14
  refine wp_loopF (fun j s' => ∃ i z l k B, i + j = 8 ∧ z ≤ 40 + i ∧ s'.d = [] ∧ s'.t.getP (Tr.path 0) = some (.int .u8 (u : Int)) ∧ s'.t.getP (Tr.path 2) = some (.int .u16 (dead : Int)) ∧ s'.t.getP (Tr.path 3) = some (.bool dark) ∧ s'.t.getP (Tr.path 9) = some (.ptr (some ⟨b, 0⟩)) ∧ s'.t.getP (Tr.path 10) = some (.ptr (some ⟨c, 0⟩)) ∧ s'.t.getP (Tr.path 14) = some (.int .i64 ((i : Nat) : Int)) ∧ disk.Duo H s'.H b ds l c es k B ∧ disk.Bok z B ∧ disk.SmallB B ∧ B.l.length = K + 1) ?_ lf 8 _ ⟨0, j0, l, k, B, rfl, hj, rfl, q0, q2, q3, q9, q10, q14, hD, ok, sm, hK⟩ (by omega)
  clear q0 q2 q3 q9 q10 q14 t hD ok sm hK
  rintro j ⟨t, HH, dd⟩ ⟨i, z, l, k, B, hi, hz, rfl, q0, q2, q3, q9, q10, q14, hD, ok, sm, hK⟩
  dsimp only at q0 q2 q3 q9 q10 q14 hD
  cases j with
  | zero =>
    have hi : i = 8 := by omega
    subst hi
    have hg : ¬ ((8 : Int) < 8) := by decide
    have q14 : t.getP (Tr.path 14) = some (.int .i64 8) := q14
    simp only [c5_l1, q0, q2, q3, q9, q10, q14, hg, sy, tup, ↓reduceIte, Nat.reduceEqDiff, Nat.reduceAdd, Nat.reduceSub, Nat.reduceMul, Nat.reduceLeDiff, Int.reduceBEq, reduceCtorEq]
    exact ⟨trivial, trivial, trivial, trivial, trivial, trivial, z, l, k, B, by omega, hD, ok, sm, hK⟩
  | succ j =>
    have h8 : (i : Int) < 8 := by omega
    have w64 : IntKind.u64.wrap (i : Int) = (i : Int) := wrap_u64 (by omega)
    have sh := shr_u16' (a := dead) (m := i) (by omega)
    have hx4 : dead / 2 ^ i < 65536 := Nat.lt_of_le_of_lt (Nat.div_le_self _ _) hdead
    generalize dead / 2 ^ i = y at *
    have an : arith .and (.int .u16 (y : Int)) (.int .u16 1) = some (.int .u16 ((y &&& 1 : Nat) : Int)) := and_u16 hx4 (by decide)
    generalize (y &&& 1 : Nat) = z1 at *
    have hwr : IntKind.i64.wrap ((i : Int) + 1) = (i : Int) + 1 := wrap_i64 (by omega)
    cases hb : ((z1 : Int) == 1) with
    | false =>
      simp only [c5_l1, q0, q2, q3, q9, q10, q14, h8, w64, sh, an, hb, hwr, sy, tup, ↓reduceIte, Nat.reduceEqDiff, Nat.reduceAdd, Nat.reduceSub, Nat.reduceMul, Nat.reduceLeDiff, Int.reduceBEq, reduceCtorEq]
      exact ⟨j, Nat.lt_succ_self j, i + 1, z, l, k, B, by omega, by omega, trivial, trivial, trivial, trivial, trivial, trivial, rfl, hD, ok, sm, hK⟩
    | true =>
      obtain ⟨v1, K1, e1, rfl, l', n1⟩ := disk.bfail_all hD.m.rep hD.ne (ok.good (by omega)) (i : Int) lf (n + 6)
      change callS Tryz.prog S0 lf (n + 9) _ _ _ = _ at e1
      have r1 := hD.r1 n1
      obtain ⟨v2, K2, e2, rfl, k', n2⟩ := disk.rbfail r1.rep (ok.good (by omega)) (i : Int) lf (n + 7)
      change callS Tryz.prog S0 lf (n + 9) _ _ _ = _ at e2
      have hlen := disk.fail_len' B (i : Int)
      have hD2 := hD.step n1 (Turns.refl _ _) n2 hlen
      have okw := ok.fail (i : Int)
      have smw := sm.fail (i : Int)
      generalize B.tc (i : Int) = tc at *
      simp only [c5_l1, q0, q2, q3, q9, q10, q14, h8, w64, sh, an, hb, hwr, e1, e2, sy, tup, ↓reduceIte, Nat.reduceEqDiff, Nat.reduceAdd, Nat.reduceSub, Nat.reduceMul, Nat.reduceLeDiff, Int.reduceBEq, reduceCtorEq]
      exact ⟨j, Nat.lt_succ_self j, i + 1, z + 1, l', k', _, by omega, by omega, trivial, trivial, trivial, trivial, trivial, trivial, rfl, hD2, okw, smw, hlen.trans hK⟩
end
end Go.Proofs.YtejgheoandfikaaGreat.draft
set_option linter.unusedVariables false
set_option linter.unusedSimpArgs false
set_option maxRecDepth 10000
namespace Go.Proofs.YtejgheoandfikaaGreat.draft
open Go.Am
section
variable {H : Heap} {b ds c es : Bk} {K : Nat}
theorem looks_sup {lf : Nat} (hlf : 1000 < lf) (n : Nat) {l k : List disk.Dv} {B : disk.Bn} {HS : Heap} (hD : disk.Duo H HS b ds l c es k B) {j0 : Nat} (hj : j0 ≤ 60) (ok : disk.Bok j0 B) (sm : disk.SmallB B) (hK : B.l.length = K) (hK6 : 1 ≤ K ∧ K ≤ 7) :
    ∀ t : T, t.getP (Tr.path 9) = some (.ptr (some ⟨b, 0⟩)) → t.getP (Tr.path 10) = some (.ptr (some ⟨c, 0⟩)) → t.getP (Tr.path 15) = some (.int .i64 (-1)) →
      wp (loopF (runC (callS Tryz.prog S0 lf (n + 9)) lf c5_l0) lf ⟨t, HS, []⟩) fun x s' => x = .ex 4 ∧ s'.d = [] ∧ s'.t.getP (Tr.path 9) = some (.ptr (some ⟨b, 0⟩)) ∧ s'.t.getP (Tr.path 10) = some (.ptr (some ⟨c, 0⟩)) ∧ disk.Duo H s'.H b ds l c es k B := by
  intro t q9 q10 q15
  have hzr : zrow = [.int .u64 0, .int .i64 0, .int .i64 0, .int .i64 0, .int .i64 0, .int .u8 0, .int .u8 0, .int .u8 0, .int .u8 0, .int .u8 0, .int .u8 0, .int .u8 0, .int .u8 0, .int .u8 0, .int .u8 0, .int .u8 0, .int .u8 0, .int .u8 0, .int .u8 0, .int .u8 0, .int .u8 0, .int .i64 0, .bool false] := rfl
  have hlk : k.length = K := by rw [hD.r.rep.len, hK]
  have hll : l.length = K := by rw [hD.m.rep.len, hK]
  refine wp_loopF (fun j s' => ∃ (i : Nat) (d : Int), i + j = K + 2 ∧ d = (i : Int) - 1 ∧ s'.d = [] ∧ s'.t.getP (Tr.path 9) = some (.ptr (some ⟨b, 0⟩)) ∧ s'.t.getP (Tr.path 10) = some (.ptr (some ⟨c, 0⟩)) ∧ s'.t.getP (Tr.path 15) = some (.int .i64 d) ∧ disk.Duo H s'.H b ds l c es k B) ?_ lf (K + 2) _ ⟨0, -1, by omega, by omega, rfl, q9, q10, q15, hD⟩ (by omega)
  clear q9 q10 q15 t hD
  rintro j ⟨t, HH, dd⟩ ⟨i, d, hi, hd, rfl, q9, q10, q15, hD⟩
  dsimp only at q9 q10 q15 hD
  have eD : callS Tryz.prog S0 lf (n + 9) 36 [.ptr (some ⟨c, 0⟩)] HH = _ := disk.rdevices hD.r.rep lf (n + 8)
  rw [hlk] at eD
  cases j with
  | zero =>
    have hz : ¬ (d ≤ (K : Int)) := by omega
    simp only [c5_l0, q9, q10, q15, eD, hz, sy, tup, ↓reduceIte, Nat.reduceEqDiff, Nat.reduceAdd, Nat.reduceSub, Nat.reduceMul, Nat.reduceLeDiff, Int.reduceBEq, reduceCtorEq]
    exact ⟨trivial, trivial, trivial, trivial, hD⟩
  | succ j =>
    have hz : d ≤ (K : Int) := by omega
    have hw : IntKind.i64.wrap (d + 1) = d + 1 := wrap_i64 (by omega)
    obtain ⟨ev, row, e, R, hcmp, f1, f2⟩ := both_super (B := B) (N := K) (by omega) (by omega) (ok.good (by omega)) sm d hlf (n + 1)
    obtain ⟨v1, H1, e1, t1, rfl⟩ := f1 hD.m.rep hll
    change callS Tryz.prog S0 lf (n + 9) _ _ _ = _ at e1
    obtain ⟨K1, s1, g1, u1, n1⟩ := R.new H1
    have hD1 := (hD.turns t1).turns u1
    obtain ⟨v2, H2, e2, t2, rfl⟩ := f2 hD1.r.rep hlk
    change callS Tryz.prog S0 lf (n + 9) _ _ _ = _ at e2
    obtain ⟨K2, s2, g2, u2, n2⟩ := R.new H2
    have hD2 := (hD1.turns t2).turns u2
    have l1 : loadAt K2 ⟨.run H1.next, 0⟩ 23 = some row := R.load (((t2.trans u2).same (.run H1.next) (by show _ < _; omega) id).trans g1)
    have l2 : loadAt K2 ⟨.run H2.next, 0⟩ 23 = some row := R.load g2
    have w := R.width
    obtain ⟨J1, hJ1⟩ : ∃ J, H1.add (.rows false 23 [zrow]) = J := ⟨_, rfl⟩
    rw [hJ1] at s1
    obtain ⟨J2, hJ2⟩ : ∃ J, H2.add (.rows false 23 [zrow]) = J := ⟨_, rfl⟩
    rw [hJ2] at s2
    rw [hzr] at hJ1 hJ2
    unfold supCK at hcmp
    simp only [c5_l0, q9, q10, q15, eD, hz, e1, hJ1, s1, e2, hJ2, s2, l1, l2, w, hcmp, sy, tup, ↓reduceIte, Nat.reduceEqDiff, Nat.reduceAdd, Nat.reduceSub, Nat.reduceMul, Nat.reduceLeDiff, Int.reduceBEq, reduceCtorEq]
    simp only [q9, q10, q15, hw, sy, tup, ↓reduceIte, Nat.reduceEqDiff, Nat.reduceAdd, Nat.reduceSub, Nat.reduceMul, Nat.reduceLeDiff, Int.reduceBEq, reduceCtorEq]
    exact ⟨j, Nat.lt_succ_self j, i + 1, d + 1, by omega, by omega, trivial, trivial, trivial, rfl, hD2⟩
end
theorem gatherlooks_run (H : Heap) {lp : Option Ptr} {lc : Nat} {A : List SPut} (hA : SPutsAt H lp A) {u dead : Nat} (hu : u < 256) (hdead : dead < 65536) (dark : Bool) {lf : Nat} (hlf : 1000 < lf) (n : Nat) :
    ret (callS Tryz.prog S0 lf (n + 10) 5 [.int .u8 (u : Int), .slice lp A.length lc 0, .int .u16 (dead : Int), .bool dark] H) fun v H' => v = .bool true ∧ Turns Z H H' := by
  have hzf : zf = [.int .u64 0, .int .u64 0, .int .i64 0, .int .i64 0, .int .i64 0, .int .u8 0, .int .u8 0, .int .u8 0, .int .u8 0, .int .u8 0, .int .u8 0, .int .u8 0, .int .u8 0, .int .u8 0, .int .u8 0, .int .u8 0, .int .u8 0, .int .u8 0, .int .u8 0, .int .u8 0, .int .u8 0, .int .i64 0, .bool false] := rfl
  have hL : ∀ H, callS Tryz.prog S0 lf (n + 9) 42 [] H = some (.v (.bool true), H) := fun H => glives_ok lf (n + 8) H
  have r4 : arith .rem (.int .u8 (u : Int)) (.int .u8 4) = some (.int .u8 ((u % 4 : Nat) : Int)) := rem_u8 u 4 (by decide)
  have hu4 : u % 4 < 4 := Nat.mod_lt _ (by decide)
  generalize u % 4 = w at *
  obtain ⟨K, hk⟩ : ∃ k, k = 3 + w := ⟨_, rfl⟩
  have w1 : IntKind.i64.wrap (w : Int) = (w : Int) := wrap_i64 (by omega)
  have w2 : IntKind.i64.wrap (3 + (w : Int)) = (K : Int) := by rw [wrap_i64 (by omega)]; omega
  obtain ⟨v1, H1, e1, t1, b, ds, l, c, es, k, rfl, hR, hQ, hN, hM, hX⟩ := benches_ok H (k := K) (by omega) hlf (n + 6)
  change callS Tryz.prog S0 lf (n + 9) _ _ _ = _ at e1
  have hok : disk.Bok 0 (disk.newB (sizes K)) := by
    refine disk.okNew ⟨?_, ?_, ?_⟩
    · unfold sizes; simp
    · unfold sizes; simp; omega
    · intro x hx
      unfold sizes at hx
      simp at hx
      rcases hx with ⟨_, rfl⟩ | rfl <;> omega
  have hlen0 : (disk.newB (sizes K)).l.length = K + 1 := by unfold disk.newB sizes; simp
  have hD0 : disk.Duo H H1 b ds l c es k (disk.newB (sizes K)) := ⟨⟨hR, t1, hN⟩, ⟨hQ, t1, hM⟩, hX, by omega⟩
  refine ret_call rfl c5_eq ?_
  simp only [c5, r4, w1, w2, e1, sy, tup, ↓reduceIte, Nat.reduceEqDiff, Nat.reduceAdd, Nat.reduceSub, Nat.reduceMul, Nat.reduceLeDiff, Int.reduceBEq, reduceCtorEq]
  refine wp_ctx (F := fun r => seqC _ _ _ (blockC _ r)) (looks_put (lc := lc) (u := u) (dead := dead) (dark := dark) (K := K) hA hlf n hD0 hok (disk.SmallB.new _) hlen0 _ ?_ ?_ ?_ ?_ ?_ ?_ ?_) ?_
  · simp only [sy, tup, ↓reduceIte, Nat.reduceEqDiff, Nat.reduceAdd, Nat.reduceSub, Nat.reduceMul, Nat.reduceLeDiff, Int.reduceBEq, reduceCtorEq]
  · simp only [sy, tup, ↓reduceIte, Nat.reduceEqDiff, Nat.reduceAdd, Nat.reduceSub, Nat.reduceMul, Nat.reduceLeDiff, Int.reduceBEq, reduceCtorEq]
  · simp only [sy, tup, ↓reduceIte, Nat.reduceEqDiff, Nat.reduceAdd, Nat.reduceSub, Nat.reduceMul, Nat.reduceLeDiff, Int.reduceBEq, reduceCtorEq]
  · simp only [sy, tup, ↓reduceIte, Nat.reduceEqDiff, Nat.reduceAdd, Nat.reduceSub, Nat.reduceMul, Nat.reduceLeDiff, Int.reduceBEq, reduceCtorEq]
  · simp only [sy, tup, ↓reduceIte, Nat.reduceEqDiff, Nat.reduceAdd, Nat.reduceSub, Nat.reduceMul, Nat.reduceLeDiff, Int.reduceBEq, reduceCtorEq]
  · simp only [sy, tup, ↓reduceIte, Nat.reduceEqDiff, Nat.reduceAdd, Nat.reduceSub, Nat.reduceMul, Nat.reduceLeDiff, Int.reduceBEq, reduceCtorEq]
  · simp only [sy, tup, ↓reduceIte, Nat.reduceEqDiff, Nat.reduceAdd, Nat.reduceSub, Nat.reduceMul, Nat.reduceLeDiff, Int.reduceBEq, reduceCtorEq]
  clear hD0 hok hlen0 hR hQ hN hM hX e1
  rintro x ⟨t, H2, d⟩ ⟨rfl, hd, q0, q2, q3, q9, q10, i, l, k, B, hi, hD, ok, sm, hK⟩
  dsimp only at hd q0 q2 q3 q9 q10 hD
  subst hd
  simp only [q0, q2, q3, q9, q10, sy, tup, ↓reduceIte, Nat.reduceEqDiff, Nat.reduceAdd, Nat.reduceSub, Nat.reduceMul, Nat.reduceLeDiff, Int.reduceBEq, reduceCtorEq]
  refine wp_ctx (F := fun r => seqC _ _ _ (blockC _ r)) (looks_fail (u := u) (dead := dead) (dark := dark) (K := K) hdead hlf n hD hi ok sm hK _ ?_ ?_ ?_ ?_ ?_ ?_) ?_
  · simp only [q0, sy, tup, ↓reduceIte, Nat.reduceEqDiff, Nat.reduceAdd, Nat.reduceSub, Nat.reduceMul, Nat.reduceLeDiff, Int.reduceBEq, reduceCtorEq]
  · simp only [q2, sy, tup, ↓reduceIte, Nat.reduceEqDiff, Nat.reduceAdd, Nat.reduceSub, Nat.reduceMul, Nat.reduceLeDiff, Int.reduceBEq, reduceCtorEq]
  · simp only [q3, sy, tup, ↓reduceIte, Nat.reduceEqDiff, Nat.reduceAdd, Nat.reduceSub, Nat.reduceMul, Nat.reduceLeDiff, Int.reduceBEq, reduceCtorEq]
  · simp only [q9, sy, tup, ↓reduceIte, Nat.reduceEqDiff, Nat.reduceAdd, Nat.reduceSub, Nat.reduceMul, Nat.reduceLeDiff, Int.reduceBEq, reduceCtorEq]
  · simp only [q10, sy, tup, ↓reduceIte, Nat.reduceEqDiff, Nat.reduceAdd, Nat.reduceSub, Nat.reduceMul, Nat.reduceLeDiff, Int.reduceBEq, reduceCtorEq]
  · simp only [sy, tup, ↓reduceIte, Nat.reduceEqDiff, Nat.reduceAdd, Nat.reduceSub, Nat.reduceMul, Nat.reduceLeDiff, Int.reduceBEq, reduceCtorEq]
  clear hD ok sm hK q0 q2 q3 q9 q10
  rintro x ⟨t', H3, d⟩ ⟨rfl, hd, q0, q3, q9, q10, i2, l, k, B, hi2, hD, ok, sm, hK⟩
  dsimp only at hd q0 q3 q9 q10 hD
  subst hd
  obtain ⟨N, hN⟩ : ∃ N, N = K + 1 := ⟨_, rfl⟩
  rw [← hN] at hK
  have fin : ∀ {HS : Heap} {l k : List disk.Dv} {B : disk.Bn} {z : Nat}, z ≤ 60 → disk.Duo H HS b ds l c es k B → disk.Bok z B → disk.SmallB B → B.l.length = N →
      ∃ (ev id m s r : Int) (S : List Nat) (cc : Int) (g : Bool) (e : Int) (G1 G2 F1 F2 F3 : Heap), S.length = 16 ∧
        callS Tryz.prog S0 lf (n + 9) 39 [.ptr (some ⟨b, 0⟩)] HS = some (.v (.tuple [fnd ev id m s r S cc g, .int .i64 e]), G1) ∧
        storeAt (G1.add (.rows false 23 [zf])) ⟨.run G1.next, 0⟩ (fcells ev id m s r S cc g) = some F1 ∧
        callS Tryz.prog S0 lf (n + 9) 40 [.ptr (some ⟨c, 0⟩)] F1 = some (.v (.tuple [fnd ev id m s r S cc g, .int .i64 e]), G2) ∧
        storeAt (G2.add (.rows false 23 [zf])) ⟨.run G2.next, 0⟩ (fcells ev id m s r S cc g) = some F2 ∧
        loadAt F2 ⟨.run G1.next, 0⟩ 23 = some (fcells ev id m s r S cc g) ∧ loadAt F2 ⟨.run G2.next, 0⟩ 23 = some (fcells ev id m s r S cc g) ∧
        callS Tryz.prog S0 lf (n + 9) 41 [fnd ev id m s r S cc g, fnd ev id m s r S cc g] F2 = some (.v (.bool true), F3) ∧ Turns Z H F3 := fun {HS l k B z} hz hD ok sm hK => by
    obtain ⟨ev, id, m, s, r, S, cc, g, e, hS, f1, f2⟩ := both_look (B := B) (N := N) (by omega) (by omega) (ok.good (by omega)) sm hlf n
    obtain ⟨v1, G1, e1, t1, rfl⟩ := f1 hD.m.rep (by rw [hD.m.rep.len, hK])
    have gA : (G1.add (.rows false 23 [zf])).get (.run G1.next) = some (.rows false 23 [zf]) := by rw [Heap.get_add, if_pos rfl]
    have sA := storeAt_eq gA (o := 0) (vs := fcells ev id m s r S cc g) (r := zf) (r' := fcells ev id m s r S cc g) rfl (put_ff (by simp) hS _ _ _ _ _ _ _ _ _ _ _ _ _ _)
    have tA : Turns Z G1 ((G1.add (.rows false 23 [zf])).set (.run G1.next) (.rows false 23 [fcells ev id m s r S cc g])) := (Turns.add Z G1 _).setnew (Nat.le_refl _) _
    have fA : FndAt ((G1.add (.rows false 23 [zf])).set (.run G1.next) (.rows false 23 [fcells ev id m s r S cc g])) (.run G1.next) ev id m s r S cc g := ⟨by rw [Heap.get_set, if_pos rfl], hS⟩
    have nA : ((G1.add (.rows false 23 [zf])).set (.run G1.next) (.rows false 23 [fcells ev id m s r S cc g])).next = G1.next + 1 := by simp
    have hDA := (hD.turns t1).turns tA
    obtain ⟨v2, G2, e2, t2, rfl⟩ := f2 hDA.r.rep (by rw [hDA.r.rep.len, hK])
    have gB : (G2.add (.rows false 23 [zf])).get (.run G2.next) = some (.rows false 23 [zf]) := by rw [Heap.get_add, if_pos rfl]
    have sB := storeAt_eq gB (o := 0) (vs := fcells ev id m s r S cc g) (r := zf) (r' := fcells ev id m s r S cc g) rfl (put_ff (by simp) hS _ _ _ _ _ _ _ _ _ _ _ _ _ _)
    have tB : Turns Z G2 ((G2.add (.rows false 23 [zf])).set (.run G2.next) (.rows false 23 [fcells ev id m s r S cc g])) := (Turns.add Z G2 _).setnew (Nat.le_refl _) _
    have fB : FndAt ((G2.add (.rows false 23 [zf])).set (.run G2.next) (.rows false 23 [fcells ev id m s r S cc g])) (.run G2.next) ev id m s r S cc g := ⟨by rw [Heap.get_set, if_pos rfl], hS⟩
    have fA2 := fA.turns (t2.trans tB) (by show _ < _; omega)
    obtain ⟨v3, F3, e3, rfl, t3⟩ := found_ok ((G2.add (.rows false 23 [zf])).set (.run G2.next) (.rows false 23 [fcells ev id m s r S cc g])) (ev := ev) (id := id) (m := m) (s := s) (r := r) (c := cc) (g := g) hS lf (n + 6) (by omega)
    exact ⟨ev, id, m, s, r, S, cc, g, e, G1, G2, _, _, F3, hS, e1, sA, e2, sB, fnd_all fA2, fnd_all fB, e3, (hDA.m.t.trans (t2.trans tB)).trans t3⟩
  cases dark with
  | false =>
    simp only [q0, q3, q9, q10, sy, tup, ↓reduceIte, Nat.reduceEqDiff, Nat.reduceAdd, Nat.reduceSub, Nat.reduceMul, Nat.reduceLeDiff, Int.reduceBEq, reduceCtorEq]
    refine wp_ctx (F := fun r => seqC _ _ _ (blockC _ r)) (looks_sup hlf n hD (by omega) ok sm hK (by omega) _ ?_ ?_ ?_) ?_
    · simp only [q9, sy, tup, ↓reduceIte, Nat.reduceEqDiff, Nat.reduceAdd, Nat.reduceSub, Nat.reduceMul, Nat.reduceLeDiff, Int.reduceBEq, reduceCtorEq]
    · simp only [q10, sy, tup, ↓reduceIte, Nat.reduceEqDiff, Nat.reduceAdd, Nat.reduceSub, Nat.reduceMul, Nat.reduceLeDiff, Int.reduceBEq, reduceCtorEq]
    · simp only [sy, tup, ↓reduceIte, Nat.reduceEqDiff, Nat.reduceAdd, Nat.reduceSub, Nat.reduceMul, Nat.reduceLeDiff, Int.reduceBEq, reduceCtorEq]
    clear hD q0 q3 q9 q10
    rintro x ⟨t'', H4, d⟩ ⟨rfl, hd, q9, q10, hD⟩
    dsimp only at hd q9 q10 hD
    subst hd
    obtain ⟨ev, id, m, s, r, S, cc, g, e, G1, G2, F1, F2, F3, hS, f1, f2, f3, f4, f5, f6, f7, f8⟩ := fin (by omega) hD ok sm hK
    have wf := f_width hS ev id m s r cc g
    rw [hzf] at f2 f4
    unfold fnd at f1 f3 f7
    simp only [q9, q10, f1, wf, f2, f3, f4, f5, f6, f7, hL, sy, tup, ↓reduceIte, Nat.reduceEqDiff, Nat.reduceAdd, Nat.reduceSub, Nat.reduceMul, Nat.reduceLeDiff, Int.reduceBEq, reduceCtorEq]
    exact ⟨trivial, .inr trivial, _, rfl, rfl, f8⟩
  | true =>
    have hst := ok.st
    have gg := ok.good (by omega)
    obtain ⟨v4, K4, e4, rfl, n4⟩ := disk.barm_all hD.m.rep hD.ne gg 1 lf (n + 7)
    change callS Tryz.prog S0 lf (n + 9) _ _ _ = _ at e4
    have r4' := hD.r1 n4
    obtain ⟨v5, K5, e5, rfl, n5⟩ := disk.rarm r4'.rep 1 lf (n + 8)
    change callS Tryz.prog S0 lf (n + 9) _ _ _ = _ at e5
    have hD5 := hD.step n4 (Turns.refl _ _) n5 (disk.arm_len' B 1)
    have ok5 := ok.arm (n := 1) (by decide)
    have sm5 := sm.arm 1
    have hK5 := (disk.arm_len' B 1).trans hK
    have hst5 := ok5.st
    have gg5 := ok5.good (by omega)
    generalize B.ac 1 = ac at *
    generalize B.arm 1 = B5 at *
    obtain ⟨v6, K6, e6, rfl, l6, n6⟩ := disk.bflush_all hD5.m.rep hD5.ne gg5 ok5.ar ⟨hst5.1, by omega⟩ (w : Int) hlf (n + 4)
    change callS Tryz.prog S0 lf (n + 9) _ _ _ = _ at e6
    have r6' := hD5.r1 n6
    obtain ⟨v7, K7, e7, rfl, k7, n7⟩ := disk.rbflush r6'.rep gg5 ok5.ar ⟨hst5.1, by omega⟩ (w : Int) hlf (n + 6)
    change callS Tryz.prog S0 lf (n + 9) _ _ _ = _ at e7
    have hD7 := hD5.step n6 (Turns.refl _ _) n7 (disk.flush_len' B5 _)
    have ok7 := ok5.flush (w : Int)
    have sm7 := sm5.flush (w : Int)
    have hK7 := (disk.flush_len' B5 (w : Int)).trans hK5
    generalize B5.wc (w : Int) 0 = wc at *
    generalize B5.flush (w : Int) = B7 at *
    simp only [q0, q3, q9, q10, r4, w1, e4, e5, e6, e7, sy, tup, ↓reduceIte, Nat.reduceEqDiff, Nat.reduceAdd, Nat.reduceSub, Nat.reduceMul, Nat.reduceLeDiff, Int.reduceBEq, reduceCtorEq]
    refine wp_ctx (F := fun r => seqC _ _ _ (blockC _ r)) (looks_sup hlf n hD7 (by omega) ok7 sm7 hK7 (by omega) _ ?_ ?_ ?_) ?_
    · simp only [q9, sy, tup, ↓reduceIte, Nat.reduceEqDiff, Nat.reduceAdd, Nat.reduceSub, Nat.reduceMul, Nat.reduceLeDiff, Int.reduceBEq, reduceCtorEq]
    · simp only [q10, sy, tup, ↓reduceIte, Nat.reduceEqDiff, Nat.reduceAdd, Nat.reduceSub, Nat.reduceMul, Nat.reduceLeDiff, Int.reduceBEq, reduceCtorEq]
    · simp only [sy, tup, ↓reduceIte, Nat.reduceEqDiff, Nat.reduceAdd, Nat.reduceSub, Nat.reduceMul, Nat.reduceLeDiff, Int.reduceBEq, reduceCtorEq]
    clear hD q0 q3 q9 q10
    rintro x ⟨t'', H4, d⟩ ⟨rfl, hd, q9, q10, hD⟩
    dsimp only at hd q9 q10 hD
    subst hd
    obtain ⟨ev, id, m, s, r, S, cc, g, e, G1, G2, F1, F2, F3, hS, f1, f2, f3, f4, f5, f6, f7, f8⟩ := fin (by omega) hD ok7 sm7 hK7
    have wf := f_width hS ev id m s r cc g
    rw [hzf] at f2 f4
    unfold fnd at f1 f3 f7
    simp only [q9, q10, f1, wf, f2, f3, f4, f5, f6, f7, hL, sy, tup, ↓reduceIte, Nat.reduceEqDiff, Nat.reduceAdd, Nat.reduceSub, Nat.reduceMul, Nat.reduceLeDiff, Int.reduceBEq, reduceCtorEq]
    exact ⟨trivial, .inr trivial, _, rfl, rfl, f8⟩
end Go.Proofs.YtejgheoandfikaaGreat.draft
