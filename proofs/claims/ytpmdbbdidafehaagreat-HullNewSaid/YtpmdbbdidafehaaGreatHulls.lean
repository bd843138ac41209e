import Derived.Test.YtpmdbbdidafehaaGreatRefs
import Derived.Test.YtpmdbbdidafehaaGreatRos
/-
  A hull made: the program's and the document's.
-/
set_option linter.unusedVariables false
set_option linter.unusedSimpArgs false
set_option maxRecDepth 10000
namespace Go.Proofs.YtpmdbbdidafehaaGreat.draft
open Go.Am

noncomputable def c26_l0 : C := .seq (.reg [
 qo 38 (.p (arF .lss (tt 37) (tt 36))) [pp 37, pp 36]]) (
 .seq (.cond (tt 38) (.skip) (.exit 0)) (
 .seq (.block 1 (.seq (.reg [
 mv 39 37,
 mv 10 39]) (
 .seq (.regD [
 mv 40 0,
 mv 41 10,
 qo 42 (.c (callF (ff 76) [(tt 40), (tt 41)])) [pp 40, pp 41],
 qo 43 (.p (faddrF (tt 7) 0)) [pp 7],
 qo 44 (.p (faddrF (tt 43) 1)) [pp 43],
 qo 45 (.r (loadF (tt 44) 1 .sc)) [pp 44],
 qo 46 (.p (arF .add (ii 2) (tt 45))) [pp 45],
 qo 47 (.p (arF .lss (tt 42) (tt 46))) [pp 42, pp 46]] [0, 0, 3, 0, 8, 24, 56, 127]) (
 .cond (tt 47) (.seq (.reg [
 qo 8 (.p (S.get (.c (.ptr none)))) [],
 qo 9 (.p (S.get (ii 2))) []]) (
 .ret)) (.skip))))) (
 .reg [
 qo 48 (.p (arF .add (tt 37) (ii 1))) [pp 37],
 mv 37 48])))
/-- ashlar/hull.New -/
noncomputable def c26 : CFn := ⟨[.tmp (pp 8), .tmp (pp 9)],
 .seq (.reg [
 qo 7 (.m (boxF 21 (tt 3))) [pp 3],
 qo 8 (.p (S.get (.c (.ptr none)))) [],
 qo 9 (.p (S.get (ii 0))) []]) (
 .seq (.seq (.reg [
 mv 11 0,
 qo 12 (.c (callF (ff 63) [(tt 11)])) [pp 11],
 qo 13 (.p (eqcF false false [.int .i64] (tt 12) (ii 0))) [pp 12]]) (
 .cond (tt 13) (.seq (.reg [
 qo 8 (.p (S.get (.c (.ptr none)))) [],
 qo 9 (.p (S.get (ii 1))) []]) (
 .ret)) (.skip))) (
 .seq (.seq (.regD [
 mv 14 1,
 qo 15 (.p (eqcF false false [.int .u64] (tt 14) (.c (.int .u64 0)))) [pp 14],
 mv 16 15,
 mg 17 2 16 false,
 qg 18 (.p (arF .gtr (tt 17) (.c (.int .u64 2305843009213693952)))) 16 false [pp 17],
 qo 19 (.p (pickF (tt 16) (.c (.bool true)) (tt 18))) [pp 16, pp 18],
 mv 20 19,
 qg 21 (.r (loadF (tt 7) 21 .ag)) 20 false [pp 7],
 qg 22 (.c (callF (ff 75) [(tt 21)])) 20 false [pp 21],
 qg 23 (.p (unF .not (tt 22))) 20 false [pp 22],
 qo 24 (.p (pickF (tt 20) (.c (.bool true)) (tt 23))) [pp 20, pp 23],
 mv 25 24,
 mg 26 0 25 false,
 qg 27 (.c (callF (ff 63) [(tt 26)])) 25 false [pp 26],
 qg 28 (.p (faddrF (tt 7) 0)) 25 false [pp 7],
 qg 29 (.p (faddrF (tt 28) 0)) 25 false [pp 28],
 qg 30 (.r (loadF (tt 29) 1 .sc)) 25 false [pp 29],
 qg 31 (.p (arF .add (tt 30) (ii 1))) 25 false [pp 30],
 qg 32 (.p (eqcF true false [.int .i64] (tt 27) (tt 31))) 25 false [pp 27, pp 31],
 qo 33 (.p (pickF (tt 25) (.c (.bool true)) (tt 32))) [pp 25, pp 32]] [0, 1, 3, 7, 15, 31, 63, 127, 255, 511, 1023, 2047, 4095, 8191, 4095, 20479, 53247, 118783, 262143, 524287]) (
 .cond (tt 33) (.seq (.reg [
 qo 8 (.p (S.get (.c (.ptr none)))) [],
 qo 9 (.p (S.get (ii 2))) []]) (
 .ret)) (.skip))) (
 .seq (.seq (.reg [
 qo 34 (.p (faddrF (tt 7) 0)) [pp 7],
 qo 35 (.p (faddrF (tt 34) 0)) [pp 34],
 qo 36 (.r (loadF (tt 35) 1 .sc)) [pp 35],
 qo 37 (.p (S.get (ii 0))) []]) (
 .block 0 (.loop c26_l0))) (
 .seq (.reg [
 mv 49 0,
 mv 50 1,
 mv 51 2,
 qo 52 (.r (loadF (tt 7) 21 .ag)) [pp 7],
 qo 53 (.p (buildF [.ptr none, .int .u64 0, .int .u64 0, .int .i64 0, .int .i64 0, .int .i64 0, .int .u8 0, .int .u8 0, .int .u8 0, .int .u8 0, .int .u8 0, .int .u8 0, .int .u8 0, .int .u8 0, .int .u8 0, .int .u8 0, .int .u8 0, .int .u8 0, .int .u8 0, .int .u8 0, .int .u8 0, .int .u8 0, .int .i64 0, .bool false] .ag [(0, 1, (tt 49)), (1, 1, (tt 50)), (2, 1, (tt 51)), (3, 21, (tt 52))])) [pp 49, pp 50, pp 51, pp 52],
 qo 54 (.m (boxF 24 (tt 53))) [pp 53],
 mv 8 54,
 qo 9 (.p (S.get (ii 0))) []]) (
 .ret)))))⟩
theorem c26_eq : fnOf Tryz.prog 26 = some c26 := by kernel_rfl

noncomputable def c28_l0 : C := .seq (.seq (.reg [
 mv 31 10,
 qo 32 (.p (faddrF (tt 7) 0)) [pp 7],
 qo 33 (.p (faddrF (tt 32) 0)) [pp 32],
 qo 34 (.r (loadF (tt 33) 1 .sc)) [pp 33],
 qo 35 (.p (arF .lss (tt 31) (tt 34))) [pp 31, pp 34]]) (
 .cond (tt 35) (.skip) (.exit 0))) (
 .seq (.block 1 (.seq (.regD [
 mv 38 0,
 mv 39 10,
 qo 40 (.c (callF (ff 81) [(tt 38), (tt 39)])) [pp 38, pp 39],
 qo 41 (.p (faddrF (tt 7) 0)) [pp 7],
 qo 42 (.p (faddrF (tt 41) 1)) [pp 41],
 qo 43 (.r (loadF (tt 42) 1 .sc)) [pp 42],
 qo 44 (.p (arF .add (tt 43) (ii 2))) [pp 43],
 qo 45 (.p (arF .lss (tt 40) (tt 44))) [pp 40, pp 44]] [0, 0, 3, 0, 8, 24, 56, 127]) (
 .cond (tt 45) (.seq (.reg [
 qo 8 (.p (S.get (.c (.ptr none)))) [],
 qo 9 (.p (S.get (ii 2))) []]) (
 .ret)) (.skip)))) (
 .reg [
 mv 36 10,
 qo 37 (.p (arF .add (tt 36) (ii 1))) [pp 36],
 mv 10 37]))
/-- ashlar/ashlarref18.New -/
noncomputable def c28 : CFn := ⟨[.tmp (pp 8), .tmp (pp 9)],
 .seq (.reg [
 qo 7 (.m (boxF 21 (tt 3))) [pp 3],
 qo 8 (.p (S.get (.c (.ptr none)))) [],
 qo 9 (.p (S.get (ii 0))) []]) (
 .seq (.seq (.regD [
 mv 11 1,
 qo 12 (.p (eqcF false false [.int .u64] (tt 11) (.c (.int .u64 0)))) [pp 11],
 mv 13 12,
 mg 14 2 13 false,
 qg 15 (.p (arF .gtr (tt 14) (.c (.int .u64 2305843009213693952)))) 13 false [pp 14],
 qo 16 (.p (pickF (tt 13) (.c (.bool true)) (tt 15))) [pp 13, pp 15],
 mv 17 16,
 qg 18 (.r (loadF (tt 7) 21 .ag)) 17 false [pp 7],
 qg 19 (.c (callF (ff 80) [(tt 18)])) 17 false [pp 18],
 qg 20 (.p (unF .not (tt 19))) 17 false [pp 19],
 qo 21 (.p (pickF (tt 17) (.c (.bool true)) (tt 20))) [pp 17, pp 20],
 mv 22 21,
 mg 23 0 22 false,
 qg 24 (.c (callF (ff 17) [(tt 23)])) 22 false [pp 23],
 qg 25 (.p (faddrF (tt 7) 0)) 22 false [pp 7],
 qg 26 (.p (faddrF (tt 25) 0)) 22 false [pp 25],
 qg 27 (.r (loadF (tt 26) 1 .sc)) 22 false [pp 26],
 qg 28 (.p (arF .add (tt 27) (ii 1))) 22 false [pp 27],
 qg 29 (.p (eqcF true false [.int .i64] (tt 24) (tt 28))) 22 false [pp 24, pp 28],
 qo 30 (.p (pickF (tt 22) (.c (.bool true)) (tt 29))) [pp 22, pp 29]] [0, 1, 3, 7, 15, 31, 63, 127, 255, 511, 1023, 2047, 4095, 8191, 4095, 20479, 53247, 118783, 262143, 524287]) (
 .cond (tt 30) (.seq (.reg [
 qo 8 (.p (S.get (.c (.ptr none)))) [],
 qo 9 (.p (S.get (ii 2))) []]) (
 .ret)) (.skip))) (
 .seq (.seq (.reg [
 qo 10 (.p (S.get (ii 0))) []]) (
 .block 0 (.loop c28_l0))) (
 .seq (.reg [
 mv 46 0,
 mv 47 1,
 mv 48 2,
 qo 49 (.r (loadF (tt 7) 21 .ag)) [pp 7],
 qo 50 (.p (buildF [.ptr none, .int .u64 0, .int .u64 0, .int .i64 0, .int .i64 0, .int .i64 0, .int .u8 0, .int .u8 0, .int .u8 0, .int .u8 0, .int .u8 0, .int .u8 0, .int .u8 0, .int .u8 0, .int .u8 0, .int .u8 0, .int .u8 0, .int .u8 0, .int .u8 0, .int .u8 0, .int .u8 0, .int .u8 0, .int .i64 0, .bool false] .ag [(0, 1, (tt 46)), (1, 1, (tt 47)), (2, 1, (tt 48)), (3, 21, (tt 49))])) [pp 46, pp 47, pp 48, pp 49],
 qo 51 (.m (boxF 24 (tt 50))) [pp 50],
 mv 8 51,
 qo 9 (.p (S.get (ii 0))) []]) (
 .ret))))⟩
theorem c28_eq : fnOf Tryz.prog 28 = some c28 := by kernel_rfl


/-- whether a hull may be -/
def hok (id ev : Int) (m s r : Int) (S : List Nat) (c : Int) (n : Nat) (sec : Int → Int) : Prop := id ≠ 0 ∧ ev ≤ 2305843009213693952 ∧ fine m s r S c ∧ (n : Int) = m + 1 ∧ ∀ d, 0 ≤ d ∧ d < m → s + 2 ≤ sec d
def hcells (b : Bk) (id ev : Int) (m s r : Int) (S : List Nat) (c : Int) (g : Bool) : List V := [.ptr (some ⟨b, 0⟩), .int .u64 id, .int .u64 ev] ++ rcells m s r S c g

/-- what making one answers -/
def HNew (H : Heap) (b : Bk) (id ev : Int) (m s r : Int) (S : List Nat) (c : Int) (g : Bool) (n : Nat) (sec : Int → Int) (v : V) (H' : Heap) : Prop :=
  Turns Z H H' ∧ ((¬ hok id ev m s r S c n sec ∧ v = .tuple [.ptr none, .int .i64 2]) ∨ (hok id ev m s r S c n sec ∧ ∃ hb, v = .tuple [.ptr (some ⟨hb, 0⟩), .int .i64 0] ∧ H'.get hb = some (.rows false 24 [hcells b id ev m s r S c g]) ∧ ¬ H.Old hb ∧ H'.Old hb))

theorem h_thin (b : Bk) (id ev m s r : Int) (S : List Nat) (c : Int) (g : Bool) : Thin (hcells b id ev m s r S c g) := by
  intro v hv
  unfold hcells at hv
  rcases List.mem_append.1 hv with h | h
  · simp at h; rcases h with rfl | rfl | rfl <;> rfl
  · exact r_thin m s r S c g v h
theorem h_width {S : List Nat} (hS : S.length = 16) (b : Bk) (id ev m s r c : Int) (g : Bool) : width (hcells b id ev m s r S c g) = 24 := by
  rw [width_thin (h_thin b id ev m s r S c g)]
  unfold hcells
  rw [List.length_append, r_len hS]
  rfl

theorem put_h {b : Bk} {id ev m s r c : Int} {g : Bool} {S : List Nat} (hS : S.length = 16) : put [.ptr (some ⟨b, 0⟩), .int .u64 id, .int .u64 ev, .int .i64 0, .int .i64 0, .int .i64 0, .int .u8 0, .int .u8 0, .int .u8 0, .int .u8 0, .int .u8 0, .int .u8 0, .int .u8 0, .int .u8 0, .int .u8 0, .int .u8 0, .int .u8 0, .int .u8 0, .int .u8 0, .int .u8 0, .int .u8 0, .int .u8 0, .int .i64 0, .bool false] 3 (rcells m s r S c g) = some (hcells b id ev m s r S c g) := by
  match S, hS with
  | [x0, x1, x2, x3, x4, x5, x6, x7, x8, x9, x10, x11, x12, x13, x14, x15], _ => rfl

theorem hnew_ok (H : Heap) {b : Bk} {id ev m s r c : Int} {g : Bool} {S : List Nat} (hS : S.length = 16) {n : Nat} {sec : Int → Int} (hn : n ≠ 0) (lf k : Nat) (hlf : 100 < lf)
    (hd : ∀ H', Turns Z H H' → callS Tryz.prog S0 lf (k + 3) 63 [.ptr (some ⟨b, 0⟩)] H' = some (.v (.int .i64 (n : Int)), H'))
    (hs : ∀ H' d, Turns Z H H' → callS Tryz.prog S0 lf (k + 3) 76 [.ptr (some ⟨b, 0⟩), .int .i64 d] H' = some (.v (.int .i64 (sec d)), H')) :
    ret (callS Tryz.prog S0 lf (k + 4) 26 [.ptr (some ⟨b, 0⟩), .int .u64 id, .int .u64 ev, ros m s r S c g] H) (HNew H b id ev m s r S c g n sec) := by
  have t1 := Turns.add Z H (.rows false 21 [rcells m s r S c g])
  have hg : (H.add (.rows false 21 [rcells m s r S c g])).get (.run H.next) = some (.rows false 21 [rcells m s r S c g]) := by rw [Heap.get_add, if_pos rfl]
  have og : (H.add (.rows false 21 [rcells m s r S c g])).Old (.run H.next) := by show _ < _; simp
  have hr : ∀ {H' : Heap}, Turns Z (H.add (.rows false 21 [rcells m s r S c g])) H' → RosAt H' (.run H.next) m s r S c g := fun t => ⟨(t.same _ og (fun h => h)).trans hg, hS⟩
  have hw := r_width hS m s r c g
  have hw24 := h_width hS b id ev m s r c g
  generalize hH1 : H.add (.rows false 21 [rcells m s r S c g]) = H1 at *
  have a1 := ros_all (hr (Turns.refl Z H1))
  have d1 := hd H1 t1
  have hn0 : ((n : Int) == 0) = false := by simp [hn]
  refine ret_call rfl c26_eq ?_
  by_cases h0 : id = 0
  · have hb0 : (id == 0) = true := by simp [h0]
    simp only [c26, ros, hw, hH1, d1, hn0, hb0, sy, tup, ↓reduceIte, Nat.reduceEqDiff, Nat.reduceAdd, Nat.reduceSub, Nat.reduceMul, Nat.reduceDiv, Nat.reduceMod, Nat.reduceLeDiff, Int.reduceBEq, reduceCtorEq]
    rw [endD_ok (by kernel_rfl) (by kernel_rfl)]
    simp only [sy, tup, ↓reduceIte, Nat.reduceEqDiff, Nat.reduceAdd, Nat.reduceSub, Nat.reduceMul, Nat.reduceDiv, Nat.reduceMod, Nat.reduceLeDiff, Int.reduceBEq, reduceCtorEq]
    exact ⟨trivial, .inr trivial, _, rfl, t1, .inl ⟨fun h => h.1 h0, rfl⟩⟩
  have hb0 : (id == 0) = false := by simp [h0]
  by_cases he : 2305843009213693952 < ev
  · simp only [c26, ros, hw, hH1, d1, hn0, hb0, he, sy, tup, ↓reduceIte, Nat.reduceEqDiff, Nat.reduceAdd, Nat.reduceSub, Nat.reduceMul, Nat.reduceDiv, Nat.reduceMod, Nat.reduceLeDiff, Int.reduceBEq, reduceCtorEq]
    rw [endD_ok (by kernel_rfl) (by kernel_rfl)]
    simp only [sy, tup, ↓reduceIte, Nat.reduceEqDiff, Nat.reduceAdd, Nat.reduceSub, Nat.reduceMul, Nat.reduceDiv, Nat.reduceMod, Nat.reduceLeDiff, Int.reduceBEq, reduceCtorEq]
    exact ⟨trivial, .inr trivial, _, rfl, t1, .inl ⟨fun h => by have := h.2.1; omega, rfl⟩⟩
  obtain ⟨v, H2, e2, ⟨z, rfl, hz⟩, t2⟩ := pmay_ok H1 (m := m) (s := s) (r := r) (c := c) (g := g) hS lf k (by omega)
  unfold ros at e2
  cases z with
  | false =>
    have hnf : ¬ fine m s r S c := fun h => by have := hz.2 h; cases this
    simp only [c26, ros, hw, hH1, d1, hn0, hb0, he, a1, e2, sy, tup, ↓reduceIte, Nat.reduceEqDiff, Nat.reduceAdd, Nat.reduceSub, Nat.reduceMul, Nat.reduceDiv, Nat.reduceMod, Nat.reduceLeDiff, Int.reduceBEq, reduceCtorEq]
    rw [endD_ok (by kernel_rfl) (by kernel_rfl)]
    simp only [sy, tup, ↓reduceIte, Nat.reduceEqDiff, Nat.reduceAdd, Nat.reduceSub, Nat.reduceMul, Nat.reduceDiv, Nat.reduceMod, Nat.reduceLeDiff, Int.reduceBEq, reduceCtorEq]
    exact ⟨trivial, .inr trivial, _, rfl, t1.trans t2, .inl ⟨fun h => hnf h.2.2.1, rfl⟩⟩
  | true =>
    have hf : fine m s r S c := hz.1 rfl
    have hm := (may_t hf.1).1
    have hs64 := (may_t hf.1).2.1
    have d2 := hd H2 (t1.trans t2)
    have m2 := ros_m (hr t2)
    have wm : IntKind.i64.wrap (m + 1) = m + 1 := wrap_i64 (by omega)
    have wd : ∀ x : Int, x = m + 1 → IntKind.i64.wrap x = m + 1 := fun x hx => by rw [hx]; exact wm
    obtain ⟨q, hqd⟩ : ∃ q : List (Option V × Option V), q = [(loadF (.t (Tr.path 29)) 1 .sc (Tr.setP (Tr.path 29) (.ptr (some ⟨.run H.next, 0⟩)) .e) H2, some (.int .i64 m)), (loadF (.t (Tr.path 29)) 1 .sc (Tr.setP (Tr.path 29) (.ptr (some ⟨.run H.next, 0⟩)) .e) H2, some (.int .i64 m))] := ⟨_, rfl⟩
    have hq : ∀ p ∈ q, p.1 = p.2 := by
      rw [hqd]
      intro p hp
      simp only [List.mem_cons, List.not_mem_nil, or_false] at hp
      rcases hp with rfl | rfl
      · simp only [m2, sy, tup, ↓reduceIte, Nat.reduceEqDiff, Nat.reduceAdd, Nat.reduceSub, Nat.reduceMul, Nat.reduceDiv, Nat.reduceMod, Nat.reduceLeDiff, Int.reduceBEq, reduceCtorEq]
      · simp only [m2, sy, tup, ↓reduceIte, Nat.reduceEqDiff, Nat.reduceAdd, Nat.reduceSub, Nat.reduceMul, Nat.reduceDiv, Nat.reduceMod, Nat.reduceLeDiff, Int.reduceBEq, reduceCtorEq]
    have tq : Turns Z H1 (H2.owe q) := t2.owe hq
    have m3 := ros_m (hr tq)
    by_cases hnm : (n : Int) = m + 1
    · have hb1 : ((n : Int) == m + 1) = true := by simp [hnm]
      simp only [c26, ros, hw, hH1, d1, hn0, hb0, he, a1, e2, d2, m2, wm, hb1, sy, tup, ↓reduceIte, Nat.reduceEqDiff, Nat.reduceAdd, Nat.reduceSub, Nat.reduceMul, Nat.reduceDiv, Nat.reduceMod, Nat.reduceLeDiff, Int.reduceBEq, reduceCtorEq]
      rw [endD_q (q := q) (by kernel_rfl) (by rw [hqd]; kernel_rfl)]
      simp only [m3, sy, tup, ↓reduceIte, Nat.reduceEqDiff, Nat.reduceAdd, Nat.reduceSub, Nat.reduceMul, Nat.reduceDiv, Nat.reduceMod, Nat.reduceLeDiff, Int.reduceBEq, reduceCtorEq]
      have hloop : ∀ t : T, t.getP (Tr.path 0) = some (.ptr (some ⟨b, 0⟩)) → t.getP (Tr.path 1) = some (.int .u64 id) → t.getP (Tr.path 2) = some (.int .u64 ev) → t.getP (Tr.path 7) = some (.ptr (some ⟨.run H.next, 0⟩)) → t.getP (Tr.path 36) = some (.int .i64 m) → t.getP (Tr.path 37) = some (.int .i64 0) →
          wp (loopF (runC (callS Tryz.prog S0 lf (k + 3)) lf c26_l0) lf ⟨t, H2.owe q, []⟩) fun x s' => s'.d = [] ∧ Turns Z H1 s'.H ∧ ((x = .ex 0 ∧ (∀ d, 0 ≤ d ∧ d < m → s + 2 ≤ sec d) ∧ s'.t.getP (Tr.path 0) = some (.ptr (some ⟨b, 0⟩)) ∧ s'.t.getP (Tr.path 1) = some (.int .u64 id) ∧ s'.t.getP (Tr.path 2) = some (.int .u64 ev) ∧ s'.t.getP (Tr.path 7) = some (.ptr (some ⟨.run H.next, 0⟩))) ∨
            (x = .ret ∧ ¬ (∀ d, 0 ≤ d ∧ d < m → s + 2 ≤ sec d) ∧ s'.t.getP (Tr.path 8) = some (.ptr none) ∧ s'.t.getP (Tr.path 9) = some (.int .i64 2))) := by
        intro t q0 q1 q2 q7 q36 q37
        refine wp_loopF (fun j s' => ∃ i : Nat, (j : Int) = m - i ∧ (i : Int) ≤ m ∧ s'.d = [] ∧ Turns Z H1 s'.H ∧ (∀ d, 0 ≤ d ∧ d < (i : Int) → s + 2 ≤ sec d) ∧ s'.t.getP (Tr.path 0) = some (.ptr (some ⟨b, 0⟩)) ∧ s'.t.getP (Tr.path 1) = some (.int .u64 id) ∧ s'.t.getP (Tr.path 2) = some (.int .u64 ev) ∧ s'.t.getP (Tr.path 7) = some (.ptr (some ⟨.run H.next, 0⟩)) ∧ s'.t.getP (Tr.path 36) = some (.int .i64 m) ∧ s'.t.getP (Tr.path 37) = some (.int .i64 (i : Int))) ?_ lf m.toNat _ ⟨0, by omega, by omega, rfl, tq, fun d hd => absurd hd (by omega), q0, q1, q2, q7, q36, q37⟩ (by omega)
        rintro j ⟨t, HH, dd⟩ ⟨i, hj, hi, hdd, tz, hall, q0, q1, q2, q7, q36, q37⟩
        dsimp only at hdd tz q0 q1 q2 q7 q36 q37
        subst hdd
        by_cases hlt : (i : Int) < m
        · have eS := hs HH (i : Int) (t1.trans tz)
          have ls := ros_s (hr tz)
          have ws : IntKind.i64.wrap (2 + s) = s + 2 := by rw [wrap_i64 (by omega)]; omega
          have w1 : IntKind.i64.wrap ((i : Int) + 1) = ((i + 1 : Nat) : Int) := by rw [wrap_i64 (by omega)]; omega
          obtain ⟨q', hqd'⟩ : ∃ q' : List (Option V × Option V), q' = [(loadF (.t (Tr.path 44)) 1 .sc (Tr.setP (Tr.path 44) (.ptr (some ⟨.run H.next, 1⟩)) .e) HH, some (.int .i64 s)), (loadF (.t (Tr.path 44)) 1 .sc (Tr.setP (Tr.path 44) (.ptr (some ⟨.run H.next, 1⟩)) .e) HH, some (.int .i64 s))] := ⟨_, rfl⟩
          have hq' : ∀ p ∈ q', p.1 = p.2 := by
            rw [hqd']
            intro p hp
            simp only [List.mem_cons, List.not_mem_nil, or_false] at hp
            rcases hp with rfl | rfl
            · simp only [ls, sy, tup, ↓reduceIte, Nat.reduceEqDiff, Nat.reduceAdd, Nat.reduceSub, Nat.reduceMul, Nat.reduceDiv, Nat.reduceMod, Nat.reduceLeDiff, Int.reduceBEq, reduceCtorEq]
            · simp only [ls, sy, tup, ↓reduceIte, Nat.reduceEqDiff, Nat.reduceAdd, Nat.reduceSub, Nat.reduceMul, Nat.reduceDiv, Nat.reduceMod, Nat.reduceLeDiff, Int.reduceBEq, reduceCtorEq]
          have tz' : Turns Z H1 (HH.owe q') := tz.owe hq'
          by_cases hsec : sec (i : Int) < s + 2
          · simp only [c26_l0, q0, q1, q2, q7, q36, q37, hlt, eS, ls, ws, hsec, sy, tup, ↓reduceIte, Nat.reduceEqDiff, Nat.reduceAdd, Nat.reduceSub, Nat.reduceMul, Nat.reduceDiv, Nat.reduceMod, Nat.reduceLeDiff, Int.reduceBEq, reduceCtorEq]
            rw [endD_q (q := q') (by kernel_rfl) (by rw [hqd']; kernel_rfl)]
            simp only [sy, tup, ↓reduceIte, Nat.reduceEqDiff, Nat.reduceAdd, Nat.reduceSub, Nat.reduceMul, Nat.reduceDiv, Nat.reduceMod, Nat.reduceLeDiff, Int.reduceBEq, reduceCtorEq]
            exact ⟨trivial, tz', .inr ⟨trivial, fun h => by have := h (i : Int) (by omega); omega, trivial, trivial⟩⟩
          · simp only [c26_l0, q0, q1, q2, q7, q36, q37, hlt, eS, ls, ws, hsec, sy, tup, ↓reduceIte, Nat.reduceEqDiff, Nat.reduceAdd, Nat.reduceSub, Nat.reduceMul, Nat.reduceDiv, Nat.reduceMod, Nat.reduceLeDiff, Int.reduceBEq, reduceCtorEq]
            rw [endD_q (q := q') (by kernel_rfl) (by rw [hqd']; kernel_rfl)]
            simp only [q0, q1, q2, q7, q36, q37, w1, sy, tup, ↓reduceIte, Nat.reduceEqDiff, Nat.reduceAdd, Nat.reduceSub, Nat.reduceMul, Nat.reduceDiv, Nat.reduceMod, Nat.reduceLeDiff, Int.reduceBEq, reduceCtorEq]
            refine ⟨j - 1, by omega, i + 1, by omega, by omega, trivial, tz', fun d hd => ?_, by simp [q0], by simp [q1], by simp [q2], by simp [q7], by simp [q36], by simp⟩
            by_cases e : d = (i : Int)
            · subst e; omega
            · exact hall d (by omega)
        · simp only [c26_l0, q0, q1, q2, q7, q36, q37, hlt, sy, tup, ↓reduceIte, Nat.reduceEqDiff, Nat.reduceAdd, Nat.reduceSub, Nat.reduceMul, Nat.reduceDiv, Nat.reduceMod, Nat.reduceLeDiff, Int.reduceBEq, reduceCtorEq]
          exact ⟨trivial, tz, .inl ⟨trivial, fun d hd => hall d (by omega), by first | trivial | exact q0, by first | trivial | exact q1, by first | trivial | exact q2, by first | trivial | exact q7⟩⟩
      refine wp_ctx (F := fun r => seqC _ _ _ (blockC _ r)) (hloop _ ?_ ?_ ?_ ?_ ?_ ?_) ?_
      · simp only [sy, tup, ↓reduceIte, Nat.reduceEqDiff, Nat.reduceAdd, Nat.reduceSub, Nat.reduceMul, Nat.reduceDiv, Nat.reduceMod, Nat.reduceLeDiff, Int.reduceBEq, reduceCtorEq]
      · simp only [sy, tup, ↓reduceIte, Nat.reduceEqDiff, Nat.reduceAdd, Nat.reduceSub, Nat.reduceMul, Nat.reduceDiv, Nat.reduceMod, Nat.reduceLeDiff, Int.reduceBEq, reduceCtorEq]
      · simp only [sy, tup, ↓reduceIte, Nat.reduceEqDiff, Nat.reduceAdd, Nat.reduceSub, Nat.reduceMul, Nat.reduceDiv, Nat.reduceMod, Nat.reduceLeDiff, Int.reduceBEq, reduceCtorEq]
      · simp only [sy, tup, ↓reduceIte, Nat.reduceEqDiff, Nat.reduceAdd, Nat.reduceSub, Nat.reduceMul, Nat.reduceDiv, Nat.reduceMod, Nat.reduceLeDiff, Int.reduceBEq, reduceCtorEq]
      · simp only [sy, tup, ↓reduceIte, Nat.reduceEqDiff, Nat.reduceAdd, Nat.reduceSub, Nat.reduceMul, Nat.reduceDiv, Nat.reduceMod, Nat.reduceLeDiff, Int.reduceBEq, reduceCtorEq]
      · simp only [sy, tup, ↓reduceIte, Nat.reduceEqDiff, Nat.reduceAdd, Nat.reduceSub, Nat.reduceMul, Nat.reduceDiv, Nat.reduceMod, Nat.reduceLeDiff, Int.reduceBEq, reduceCtorEq]
      rintro x ⟨t, HH, dd⟩ ⟨hdd, tz, ⟨rfl, hall, q0, q1, q2, q7⟩ | ⟨rfl, hno, q8, q9⟩⟩
      · dsimp only at hdd tz q0 q1 q2 q7
        subst hdd
        have aH := ros_all (hr tz)
        have pf := put_h (b := b) (id := id) (ev := ev) (m := m) (s := s) (r := r) (c := c) (g := g) hS
        simp only [q0, q1, q2, q7, aH, hw, pf, hw24, sy, tup, ↓reduceIte, Nat.reduceEqDiff, Nat.reduceAdd, Nat.reduceSub, Nat.reduceMul, Nat.reduceDiv, Nat.reduceMod, Nat.reduceLeDiff, Int.reduceBEq, reduceCtorEq]
        refine ⟨trivial, .inr trivial, _, rfl, (t1.trans tz).addm _, .inr ⟨⟨h0, by omega, hf, hnm, hall⟩, .run HH.next, rfl, by rw [Heap.get_add, if_pos rfl], Heap.not_old (Nat.le_trans t1.next tz.next), by show _ < _; simp⟩⟩
      · dsimp only at hdd tz q8 q9
        subst hdd
        simp only [q8, q9, sy, tup, ↓reduceIte, Nat.reduceEqDiff, Nat.reduceAdd, Nat.reduceSub, Nat.reduceMul, Nat.reduceDiv, Nat.reduceMod, Nat.reduceLeDiff, Int.reduceBEq, reduceCtorEq]
        exact ⟨trivial, .inr trivial, _, rfl, t1.trans tz, .inl ⟨fun h => hno h.2.2.2.2, rfl⟩⟩
    · have hb1 : ((n : Int) == m + 1) = false := by simp; omega
      simp only [c26, ros, hw, hH1, d1, hn0, hb0, he, a1, e2, d2, m2, wm, hb1, sy, tup, ↓reduceIte, Nat.reduceEqDiff, Nat.reduceAdd, Nat.reduceSub, Nat.reduceMul, Nat.reduceDiv, Nat.reduceMod, Nat.reduceLeDiff, Int.reduceBEq, reduceCtorEq]
      rw [endD_q (q := q) (by kernel_rfl) (by rw [hqd]; kernel_rfl)]
      simp only [sy, tup, ↓reduceIte, Nat.reduceEqDiff, Nat.reduceAdd, Nat.reduceSub, Nat.reduceMul, Nat.reduceDiv, Nat.reduceMod, Nat.reduceLeDiff, Int.reduceBEq, reduceCtorEq]
      exact ⟨trivial, .inr trivial, _, rfl, t1.trans tq, .inl ⟨fun h => hnm h.2.2.2.1, rfl⟩⟩

end Go.Proofs.YtpmdbbdidafehaaGreat.draft


/-
  A hull made: the document's.
-/
set_option linter.unusedVariables false
set_option linter.unusedSimpArgs false
set_option maxRecDepth 10000
namespace Go.Proofs.YtpmdbbdidafehaaGreat.draft
open Go.Am

theorem rhnew_ok (H : Heap) {b : Bk} {id ev m s r c : Int} {g : Bool} {S : List Nat} (hS : S.length = 16) {n : Nat} {sec : Int → Int} (lf k : Nat) (hlf : 100 < lf)
    (hd : ∀ H', Turns Z H H' → callS Tryz.prog S0 lf (k + 3) 17 [.ptr (some ⟨b, 0⟩)] H' = some (.v (.int .i64 (n : Int)), H'))
    (hs : ∀ H' d, Turns Z H H' → callS Tryz.prog S0 lf (k + 3) 81 [.ptr (some ⟨b, 0⟩), .int .i64 d] H' = some (.v (.int .i64 (sec d)), H')) :
    ret (callS Tryz.prog S0 lf (k + 4) 28 [.ptr (some ⟨b, 0⟩), .int .u64 id, .int .u64 ev, ros m s r S c g] H) (HNew H b id ev m s r S c g n sec) := by
  have t1 := Turns.add Z H (.rows false 21 [rcells m s r S c g])
  have hg : (H.add (.rows false 21 [rcells m s r S c g])).get (.run H.next) = some (.rows false 21 [rcells m s r S c g]) := by rw [Heap.get_add, if_pos rfl]
  have og : (H.add (.rows false 21 [rcells m s r S c g])).Old (.run H.next) := by show _ < _; simp
  have hr : ∀ {H' : Heap}, Turns Z (H.add (.rows false 21 [rcells m s r S c g])) H' → RosAt H' (.run H.next) m s r S c g := fun t => ⟨(t.same _ og (fun h => h)).trans hg, hS⟩
  have hw := r_width hS m s r c g
  have hw24 := h_width hS b id ev m s r c g
  generalize hH1 : H.add (.rows false 21 [rcells m s r S c g]) = H1 at *
  have a1 := ros_all (hr (Turns.refl Z H1))
  refine ret_call rfl c28_eq ?_
  by_cases h0 : id = 0
  · have hb0 : (id == 0) = true := by simp [h0]
    simp only [c28, ros, hw, hH1, hb0, sy, tup, ↓reduceIte, Nat.reduceEqDiff, Nat.reduceAdd, Nat.reduceSub, Nat.reduceMul, Nat.reduceDiv, Nat.reduceMod, Nat.reduceLeDiff, Int.reduceBEq, reduceCtorEq]
    rw [endD_ok (by kernel_rfl) (by kernel_rfl)]
    simp only [sy, tup, ↓reduceIte, Nat.reduceEqDiff, Nat.reduceAdd, Nat.reduceSub, Nat.reduceMul, Nat.reduceDiv, Nat.reduceMod, Nat.reduceLeDiff, Int.reduceBEq, reduceCtorEq]
    exact ⟨trivial, .inr trivial, _, rfl, t1, .inl ⟨fun h => h.1 h0, rfl⟩⟩
  have hb0 : (id == 0) = false := by simp [h0]
  by_cases he : 2305843009213693952 < ev
  · simp only [c28, ros, hw, hH1, hb0, he, sy, tup, ↓reduceIte, Nat.reduceEqDiff, Nat.reduceAdd, Nat.reduceSub, Nat.reduceMul, Nat.reduceDiv, Nat.reduceMod, Nat.reduceLeDiff, Int.reduceBEq, reduceCtorEq]
    rw [endD_ok (by kernel_rfl) (by kernel_rfl)]
    simp only [sy, tup, ↓reduceIte, Nat.reduceEqDiff, Nat.reduceAdd, Nat.reduceSub, Nat.reduceMul, Nat.reduceDiv, Nat.reduceMod, Nat.reduceLeDiff, Int.reduceBEq, reduceCtorEq]
    exact ⟨trivial, .inr trivial, _, rfl, t1, .inl ⟨fun h => by have := h.2.1; omega, rfl⟩⟩
  obtain ⟨v, H2, e2, ⟨z, rfl, hz⟩, t2⟩ := rosmay_ok H1 (m := m) (s := s) (r := r) (c := c) (g := g) hS lf k (by omega)
  unfold ros at e2
  cases z with
  | false =>
    have hnf : ¬ fine m s r S c := fun h => by have := hz.2 h; cases this
    simp only [c28, ros, hw, hH1, hb0, he, a1, e2, sy, tup, ↓reduceIte, Nat.reduceEqDiff, Nat.reduceAdd, Nat.reduceSub, Nat.reduceMul, Nat.reduceDiv, Nat.reduceMod, Nat.reduceLeDiff, Int.reduceBEq, reduceCtorEq]
    rw [endD_ok (by kernel_rfl) (by kernel_rfl)]
    simp only [sy, tup, ↓reduceIte, Nat.reduceEqDiff, Nat.reduceAdd, Nat.reduceSub, Nat.reduceMul, Nat.reduceDiv, Nat.reduceMod, Nat.reduceLeDiff, Int.reduceBEq, reduceCtorEq]
    exact ⟨trivial, .inr trivial, _, rfl, t1.trans t2, .inl ⟨fun h => hnf h.2.2.1, rfl⟩⟩
  | true =>
    have hf : fine m s r S c := hz.1 rfl
    have hm := (may_t hf.1).1
    have hs64 := (may_t hf.1).2.1
    have d2 := hd H2 (t1.trans t2)
    have m2 := ros_m (hr t2)
    have wm : IntKind.i64.wrap (m + 1) = m + 1 := wrap_i64 (by omega)
    have wd : ∀ x : Int, x = m + 1 → IntKind.i64.wrap x = m + 1 := fun x hx => by rw [hx]; exact wm
    obtain ⟨q, hqd⟩ : ∃ q : List (Option V × Option V), q = [(loadF (.t (Tr.path 26)) 1 .sc (Tr.setP (Tr.path 26) (.ptr (some ⟨.run H.next, 0⟩)) .e) H2, some (.int .i64 m)), (loadF (.t (Tr.path 26)) 1 .sc (Tr.setP (Tr.path 26) (.ptr (some ⟨.run H.next, 0⟩)) .e) H2, some (.int .i64 m))] := ⟨_, rfl⟩
    have hq : ∀ p ∈ q, p.1 = p.2 := by
      rw [hqd]
      intro p hp
      simp only [List.mem_cons, List.not_mem_nil, or_false] at hp
      rcases hp with rfl | rfl
      · simp only [m2, sy, tup, ↓reduceIte, Nat.reduceEqDiff, Nat.reduceAdd, Nat.reduceSub, Nat.reduceMul, Nat.reduceDiv, Nat.reduceMod, Nat.reduceLeDiff, Int.reduceBEq, reduceCtorEq]
      · simp only [m2, sy, tup, ↓reduceIte, Nat.reduceEqDiff, Nat.reduceAdd, Nat.reduceSub, Nat.reduceMul, Nat.reduceDiv, Nat.reduceMod, Nat.reduceLeDiff, Int.reduceBEq, reduceCtorEq]
    have tq : Turns Z H1 (H2.owe q) := t2.owe hq
    have m3 := ros_m (hr tq)
    by_cases hnm : (n : Int) = m + 1
    · have hb1 : ((n : Int) == m + 1) = true := by simp [hnm]
      simp only [c28, ros, hw, hH1, hb0, he, a1, e2, d2, m2, wm, hb1, sy, tup, ↓reduceIte, Nat.reduceEqDiff, Nat.reduceAdd, Nat.reduceSub, Nat.reduceMul, Nat.reduceDiv, Nat.reduceMod, Nat.reduceLeDiff, Int.reduceBEq, reduceCtorEq]
      rw [endD_q (q := q) (by kernel_rfl) (by rw [hqd]; kernel_rfl)]
      simp only [m3, sy, tup, ↓reduceIte, Nat.reduceEqDiff, Nat.reduceAdd, Nat.reduceSub, Nat.reduceMul, Nat.reduceDiv, Nat.reduceMod, Nat.reduceLeDiff, Int.reduceBEq, reduceCtorEq]
      have hloop : ∀ t : T, t.getP (Tr.path 0) = some (.ptr (some ⟨b, 0⟩)) → t.getP (Tr.path 1) = some (.int .u64 id) → t.getP (Tr.path 2) = some (.int .u64 ev) → t.getP (Tr.path 7) = some (.ptr (some ⟨.run H.next, 0⟩)) → t.getP (Tr.path 10) = some (.int .i64 0) →
          wp (loopF (runC (callS Tryz.prog S0 lf (k + 3)) lf c28_l0) lf ⟨t, H2.owe q, []⟩) fun x s' => s'.d = [] ∧ Turns Z H1 s'.H ∧ ((x = .ex 0 ∧ (∀ d, 0 ≤ d ∧ d < m → s + 2 ≤ sec d) ∧ s'.t.getP (Tr.path 0) = some (.ptr (some ⟨b, 0⟩)) ∧ s'.t.getP (Tr.path 1) = some (.int .u64 id) ∧ s'.t.getP (Tr.path 2) = some (.int .u64 ev) ∧ s'.t.getP (Tr.path 7) = some (.ptr (some ⟨.run H.next, 0⟩))) ∨
            (x = .ret ∧ ¬ (∀ d, 0 ≤ d ∧ d < m → s + 2 ≤ sec d) ∧ s'.t.getP (Tr.path 8) = some (.ptr none) ∧ s'.t.getP (Tr.path 9) = some (.int .i64 2))) := by
        intro t q0 q1 q2 q7 q10
        refine wp_loopF (fun j s' => ∃ i : Nat, (j : Int) = m - i ∧ (i : Int) ≤ m ∧ s'.d = [] ∧ Turns Z H1 s'.H ∧ (∀ d, 0 ≤ d ∧ d < (i : Int) → s + 2 ≤ sec d) ∧ s'.t.getP (Tr.path 0) = some (.ptr (some ⟨b, 0⟩)) ∧ s'.t.getP (Tr.path 1) = some (.int .u64 id) ∧ s'.t.getP (Tr.path 2) = some (.int .u64 ev) ∧ s'.t.getP (Tr.path 7) = some (.ptr (some ⟨.run H.next, 0⟩)) ∧ s'.t.getP (Tr.path 10) = some (.int .i64 (i : Int))) ?_ lf m.toNat _ ⟨0, by omega, by omega, rfl, tq, fun d hd => absurd hd (by omega), q0, q1, q2, q7, q10⟩ (by omega)
        rintro j ⟨t, HH, dd⟩ ⟨i, hj, hi, hdd, tz, hall, q0, q1, q2, q7, q10⟩
        dsimp only at hdd tz q0 q1 q2 q7 q10
        subst hdd
        have lm := ros_m (hr tz)
        by_cases hlt : (i : Int) < m
        · have eS := hs HH (i : Int) (t1.trans tz)
          have ls := ros_s (hr tz)
          have ws : IntKind.i64.wrap (s + 2) = s + 2 := wrap_i64 (by omega)
          have w1 : IntKind.i64.wrap ((i : Int) + 1) = ((i + 1 : Nat) : Int) := by rw [wrap_i64 (by omega)]; omega
          obtain ⟨q', hqd'⟩ : ∃ q' : List (Option V × Option V), q' = [(loadF (.t (Tr.path 42)) 1 .sc (Tr.setP (Tr.path 42) (.ptr (some ⟨.run H.next, 1⟩)) .e) HH, some (.int .i64 s)), (loadF (.t (Tr.path 42)) 1 .sc (Tr.setP (Tr.path 42) (.ptr (some ⟨.run H.next, 1⟩)) .e) HH, some (.int .i64 s))] := ⟨_, rfl⟩
          have hq' : ∀ p ∈ q', p.1 = p.2 := by
            rw [hqd']
            intro p hp
            simp only [List.mem_cons, List.not_mem_nil, or_false] at hp
            rcases hp with rfl | rfl
            · simp only [ls, sy, tup, ↓reduceIte, Nat.reduceEqDiff, Nat.reduceAdd, Nat.reduceSub, Nat.reduceMul, Nat.reduceDiv, Nat.reduceMod, Nat.reduceLeDiff, Int.reduceBEq, reduceCtorEq]
            · simp only [ls, sy, tup, ↓reduceIte, Nat.reduceEqDiff, Nat.reduceAdd, Nat.reduceSub, Nat.reduceMul, Nat.reduceDiv, Nat.reduceMod, Nat.reduceLeDiff, Int.reduceBEq, reduceCtorEq]
          have tz' : Turns Z H1 (HH.owe q') := tz.owe hq'
          by_cases hsec : sec (i : Int) < s + 2
          · simp only [c28_l0, q0, q1, q2, q7, q10, lm, hlt, eS, ls, ws, hsec, sy, tup, ↓reduceIte, Nat.reduceEqDiff, Nat.reduceAdd, Nat.reduceSub, Nat.reduceMul, Nat.reduceDiv, Nat.reduceMod, Nat.reduceLeDiff, Int.reduceBEq, reduceCtorEq]
            rw [endD_q (q := q') (by kernel_rfl) (by rw [hqd']; kernel_rfl)]
            simp only [sy, tup, ↓reduceIte, Nat.reduceEqDiff, Nat.reduceAdd, Nat.reduceSub, Nat.reduceMul, Nat.reduceDiv, Nat.reduceMod, Nat.reduceLeDiff, Int.reduceBEq, reduceCtorEq]
            exact ⟨trivial, tz', .inr ⟨trivial, fun h => by have := h (i : Int) (by omega); omega, trivial, trivial⟩⟩
          · simp only [c28_l0, q0, q1, q2, q7, q10, lm, hlt, eS, ls, ws, hsec, sy, tup, ↓reduceIte, Nat.reduceEqDiff, Nat.reduceAdd, Nat.reduceSub, Nat.reduceMul, Nat.reduceDiv, Nat.reduceMod, Nat.reduceLeDiff, Int.reduceBEq, reduceCtorEq]
            rw [endD_q (q := q') (by kernel_rfl) (by rw [hqd']; kernel_rfl)]
            simp only [q0, q1, q2, q7, q10, w1, sy, tup, ↓reduceIte, Nat.reduceEqDiff, Nat.reduceAdd, Nat.reduceSub, Nat.reduceMul, Nat.reduceDiv, Nat.reduceMod, Nat.reduceLeDiff, Int.reduceBEq, reduceCtorEq]
            refine ⟨j - 1, by omega, i + 1, by omega, by omega, trivial, tz', fun d hd => ?_, by simp [q0], by simp [q1], by simp [q2], by simp [q7], by simp⟩
            by_cases e : d = (i : Int)
            · subst e; omega
            · exact hall d (by omega)
        · simp only [c28_l0, q0, q1, q2, q7, q10, lm, hlt, sy, tup, ↓reduceIte, Nat.reduceEqDiff, Nat.reduceAdd, Nat.reduceSub, Nat.reduceMul, Nat.reduceDiv, Nat.reduceMod, Nat.reduceLeDiff, Int.reduceBEq, reduceCtorEq]
          exact ⟨trivial, tz, .inl ⟨trivial, fun d hd => hall d (by omega), by first | trivial | exact q0, by first | trivial | exact q1, by first | trivial | exact q2, by first | trivial | exact q7⟩⟩
      refine wp_ctx (F := fun r => seqC _ _ _ (blockC _ r)) (hloop _ ?_ ?_ ?_ ?_ ?_) ?_
      · simp only [sy, tup, ↓reduceIte, Nat.reduceEqDiff, Nat.reduceAdd, Nat.reduceSub, Nat.reduceMul, Nat.reduceDiv, Nat.reduceMod, Nat.reduceLeDiff, Int.reduceBEq, reduceCtorEq]
      · simp only [sy, tup, ↓reduceIte, Nat.reduceEqDiff, Nat.reduceAdd, Nat.reduceSub, Nat.reduceMul, Nat.reduceDiv, Nat.reduceMod, Nat.reduceLeDiff, Int.reduceBEq, reduceCtorEq]
      · simp only [sy, tup, ↓reduceIte, Nat.reduceEqDiff, Nat.reduceAdd, Nat.reduceSub, Nat.reduceMul, Nat.reduceDiv, Nat.reduceMod, Nat.reduceLeDiff, Int.reduceBEq, reduceCtorEq]
      · simp only [sy, tup, ↓reduceIte, Nat.reduceEqDiff, Nat.reduceAdd, Nat.reduceSub, Nat.reduceMul, Nat.reduceDiv, Nat.reduceMod, Nat.reduceLeDiff, Int.reduceBEq, reduceCtorEq]
      · simp only [sy, tup, ↓reduceIte, Nat.reduceEqDiff, Nat.reduceAdd, Nat.reduceSub, Nat.reduceMul, Nat.reduceDiv, Nat.reduceMod, Nat.reduceLeDiff, Int.reduceBEq, reduceCtorEq]
      rintro x ⟨t, HH, dd⟩ ⟨hdd, tz, ⟨rfl, hall, q0, q1, q2, q7⟩ | ⟨rfl, hno, q8, q9⟩⟩
      · dsimp only at hdd tz q0 q1 q2 q7
        subst hdd
        have aH := ros_all (hr tz)
        have pf := put_h (b := b) (id := id) (ev := ev) (m := m) (s := s) (r := r) (c := c) (g := g) hS
        simp only [q0, q1, q2, q7, aH, hw, pf, hw24, sy, tup, ↓reduceIte, Nat.reduceEqDiff, Nat.reduceAdd, Nat.reduceSub, Nat.reduceMul, Nat.reduceDiv, Nat.reduceMod, Nat.reduceLeDiff, Int.reduceBEq, reduceCtorEq]
        refine ⟨trivial, .inr trivial, _, rfl, (t1.trans tz).addm _, .inr ⟨⟨h0, by omega, hf, hnm, hall⟩, .run HH.next, rfl, by rw [Heap.get_add, if_pos rfl], Heap.not_old (Nat.le_trans t1.next tz.next), by show _ < _; simp⟩⟩
      · dsimp only at hdd tz q8 q9
        subst hdd
        simp only [q8, q9, sy, tup, ↓reduceIte, Nat.reduceEqDiff, Nat.reduceAdd, Nat.reduceSub, Nat.reduceMul, Nat.reduceDiv, Nat.reduceMod, Nat.reduceLeDiff, Int.reduceBEq, reduceCtorEq]
        exact ⟨trivial, .inr trivial, _, rfl, t1.trans tz, .inl ⟨fun h => hno h.2.2.2.2, rfl⟩⟩
    · have hb1 : ((n : Int) == m + 1) = false := by simp; omega
      simp only [c28, ros, hw, hH1, hb0, he, a1, e2, d2, m2, wm, hb1, sy, tup, ↓reduceIte, Nat.reduceEqDiff, Nat.reduceAdd, Nat.reduceSub, Nat.reduceMul, Nat.reduceDiv, Nat.reduceMod, Nat.reduceLeDiff, Int.reduceBEq, reduceCtorEq]
      rw [endD_q (q := q) (by kernel_rfl) (by rw [hqd]; kernel_rfl)]
      simp only [sy, tup, ↓reduceIte, Nat.reduceEqDiff, Nat.reduceAdd, Nat.reduceSub, Nat.reduceMul, Nat.reduceDiv, Nat.reduceMod, Nat.reduceLeDiff, Int.reduceBEq, reduceCtorEq]
      exact ⟨trivial, .inr trivial, _, rfl, t1.trans tq, .inl ⟨fun h => hnm h.2.2.2.1, rfl⟩⟩

end Go.Proofs.YtpmdbbdidafehaaGreat.draft


/-
  A hull in the heap: what it tells; rosters compared.
-/
set_option linter.unusedVariables false
set_option linter.unusedSimpArgs false
set_option maxRecDepth 10000
namespace Go.Proofs.YtpmdbbdidafehaaGreat.draft
open Go.Am

/-- (*ashlar/hull.Hull).none -/
noncomputable def c86 : CFn := ⟨[.tmp (pp 2)],
 .seq (.reg [
 qo 2 (.p (S.get (.c (.bool false)))) []]) (
 .seq (.reg [
 mv 3 0,
 qo 4 (.r (eqnF false .ptr (tt 3) (.c (.ptr none)))) [pp 3],
 mv 5 4,
 mg 6 0 5 false,
 qg 7 (.p (nilcF (tt 6))) 5 false [pp 6],
 qg 8 (.p (faddrF (tt 7) 0)) 5 false [pp 7],
 qg 9 (.r (loadF (tt 8) 1 .sc)) 5 false [pp 8],
 qg 10 (.r (eqnF false .ptr (tt 9) (.c (.ptr none)))) 5 false [pp 9],
 qo 11 (.p (pickF (tt 5) (.c (.bool true)) (tt 10))) [pp 5, pp 10],
 mv 2 11]) (
 .ret))⟩
theorem c86_eq : fnOf Tryz.prog 86 = some c86 := by kernel_rfl

/-- (*ashlar/hull.Hull).Event -/
noncomputable def c35 : CFn := ⟨[.tmp (pp 2)],
 .seq (.reg [
 qo 2 (.p (S.get (.c (.int .u64 0)))) []]) (
 .seq (.seq (.reg [
 mv 3 0,
 qo 4 (.c (callF (ff 86) [(tt 3)])) [pp 3]]) (
 .cond (tt 4) (.seq (.reg [
 qo 2 (.p (S.get (.c (.int .u64 0)))) []]) (
 .ret)) (.skip))) (
 .seq (.reg [
 mv 5 0,
 qo 6 (.p (nilcF (tt 5))) [pp 5],
 qo 7 (.p (faddrF (tt 6) 2)) [pp 6],
 qo 8 (.r (loadF (tt 7) 1 .sc)) [pp 7],
 mv 2 8]) (
 .ret)))⟩
theorem c35_eq : fnOf Tryz.prog 35 = some c35 := by kernel_rfl

/-- (*ashlar/hull.Hull).Roster -/
noncomputable def c36 : CFn := ⟨[.cell (pp 2) 21 .ag],
 .seq (.reg [
 qo 2 (.m (allocF 21 [.int .i64 0, .int .i64 0, .int .i64 0, .int .u8 0, .int .u8 0, .int .u8 0, .int .u8 0, .int .u8 0, .int .u8 0, .int .u8 0, .int .u8 0, .int .u8 0, .int .u8 0, .int .u8 0, .int .u8 0, .int .u8 0, .int .u8 0, .int .u8 0, .int .u8 0, .int .i64 0, .bool false])) []]) (
 .seq (.seq (.reg [
 mv 3 0,
 qo 4 (.c (callF (ff 86) [(tt 3)])) [pp 3]]) (
 .cond (tt 4) (.seq (.reg [
 qo 5 (.p (buildF [.int .i64 0, .int .i64 0, .int .i64 0, .int .u8 0, .int .u8 0, .int .u8 0, .int .u8 0, .int .u8 0, .int .u8 0, .int .u8 0, .int .u8 0, .int .u8 0, .int .u8 0, .int .u8 0, .int .u8 0, .int .u8 0, .int .u8 0, .int .u8 0, .int .u8 0, .int .i64 0, .bool false] .ag [])) [],
 qn (.a (storeF (tt 2) (tt 5) 21)) [pp 2, pp 5]]) (
 .ret)) (.skip))) (
 .seq (.reg [
 mv 6 0,
 qo 7 (.p (nilcF (tt 6))) [pp 6],
 qo 8 (.p (faddrF (tt 7) 3)) [pp 7],
 qo 9 (.r (loadF (tt 8) 21 .ag)) [pp 8],
 qn (.a (storeF (tt 2) (tt 9) 21)) [pp 2, pp 9]]) (
 .ret)))⟩
theorem c36_eq : fnOf Tryz.prog 36 = some c36 := by kernel_rfl

/-- (*ashlar/hull.Hull).Id -/
noncomputable def c82 : CFn := ⟨[.tmp (pp 2)],
 .seq (.reg [
 qo 2 (.p (S.get (.c (.int .u64 0)))) []]) (
 .seq (.seq (.reg [
 mv 3 0,
 qo 4 (.c (callF (ff 86) [(tt 3)])) [pp 3]]) (
 .cond (tt 4) (.seq (.reg [
 qo 2 (.p (S.get (.c (.int .u64 0)))) []]) (
 .ret)) (.skip))) (
 .seq (.reg [
 mv 5 0,
 qo 6 (.p (nilcF (tt 5))) [pp 5],
 qo 7 (.p (faddrF (tt 6) 1)) [pp 6],
 qo 8 (.r (loadF (tt 7) 1 .sc)) [pp 7],
 mv 2 8]) (
 .ret)))⟩
theorem c82_eq : fnOf Tryz.prog 82 = some c82 := by kernel_rfl

/-- ashlar/ashlarref08.Rosters -/
noncomputable def c39 : CFn := ⟨[.tmp (pp 4)],
 .seq (.reg [
 qo 2 (.m (boxF 21 (tt 0))) [pp 0],
 qo 3 (.m (boxF 21 (tt 1))) [pp 1],
 qo 4 (.p (S.get (.c (.bool false)))) []]) (
 .seq (.seq (.reg [
 qo 5 (.p (faddrF (tt 2) 0)) [pp 2],
 qo 6 (.p (faddrF (tt 5) 0)) [pp 5],
 qo 7 (.r (loadF (tt 6) 1 .sc)) [pp 6],
 qo 8 (.p (faddrF (tt 3) 0)) [pp 3],
 qo 9 (.p (faddrF (tt 8) 0)) [pp 8],
 qo 10 (.r (loadF (tt 9) 1 .sc)) [pp 9],
 qo 11 (.p (eqcF true false [.int .i64] (tt 7) (tt 10))) [pp 7, pp 10],
 mv 12 11,
 qg 13 (.p (faddrF (tt 2) 0)) 12 false [pp 2],
 qg 14 (.p (faddrF (tt 13) 1)) 12 false [pp 13],
 qg 15 (.r (loadF (tt 14) 1 .sc)) 12 false [pp 14],
 qg 16 (.p (faddrF (tt 3) 0)) 12 false [pp 3],
 qg 17 (.p (faddrF (tt 16) 1)) 12 false [pp 16],
 qg 18 (.r (loadF (tt 17) 1 .sc)) 12 false [pp 17],
 qg 19 (.p (eqcF true false [.int .i64] (tt 15) (tt 18))) 12 false [pp 15, pp 18],
 qo 20 (.p (pickF (tt 12) (.c (.bool true)) (tt 19))) [pp 12, pp 19],
 mv 21 20,
 qg 22 (.p (faddrF (tt 2) 0)) 21 false [pp 2],
 qg 23 (.p (faddrF (tt 22) 2)) 21 false [pp 22],
 qg 24 (.r (loadF (tt 23) 1 .sc)) 21 false [pp 23],
 qg 25 (.p (faddrF (tt 3) 0)) 21 false [pp 3],
 qg 26 (.p (faddrF (tt 25) 2)) 21 false [pp 25],
 qg 27 (.r (loadF (tt 26) 1 .sc)) 21 false [pp 26],
 qg 28 (.p (eqcF true false [.int .i64] (tt 24) (tt 27))) 21 false [pp 24, pp 27],
 qo 29 (.p (pickF (tt 21) (.c (.bool true)) (tt 28))) [pp 21, pp 28],
 mv 30 29,
 qg 31 (.p (faddrF (tt 2) 19)) 30 false [pp 2],
 qg 32 (.r (loadF (tt 31) 1 .sc)) 30 false [pp 31],
 qg 33 (.p (faddrF (tt 3) 19)) 30 false [pp 3],
 qg 34 (.r (loadF (tt 33) 1 .sc)) 30 false [pp 33],
 qg 35 (.p (eqcF true false [.int .i64] (tt 32) (tt 34))) 30 false [pp 32, pp 34],
 qo 36 (.p (pickF (tt 30) (.c (.bool true)) (tt 35))) [pp 30, pp 35],
 mv 37 36,
 qg 38 (.p (faddrF (tt 2) 20)) 37 false [pp 2],
 qg 39 (.r (loadF (tt 38) 1 .sc)) 37 false [pp 38],
 qg 40 (.p (faddrF (tt 3) 20)) 37 false [pp 3],
 qg 41 (.r (loadF (tt 40) 1 .sc)) 37 false [pp 40],
 qg 42 (.p (eqcF true false [.bool] (tt 39) (tt 41))) 37 false [pp 39, pp 41],
 qo 43 (.p (pickF (tt 37) (.c (.bool true)) (tt 42))) [pp 37, pp 42]]) (
 .cond (tt 43) (.seq (.reg [
 qo 4 (.p (S.get (.c (.bool false)))) []]) (
 .ret)) (.skip))) (
 .seq (.regD [
 qo 44 (.p (faddrF (tt 2) 3)) [pp 2],
 qo 45 (.p (sliceAF 16 1 (tt 44) none none none)) [pp 44],
 qo 46 (.p (faddrF (tt 3) 3)) [pp 3],
 qo 47 (.p (sliceAF 16 1 (tt 46) none none none)) [pp 46],
 qo 48 (.c (callF (ff 92) [(tt 45), (tt 47)])) [pp 45, pp 47],
 mv 4 48] [0, 1, 0, 4, 15, 31]) (
 .ret)))⟩
theorem c39_eq : fnOf Tryz.prog 39 = some c39 := by kernel_rfl

noncomputable def c92_l0 : C := .seq (.seq (.reg [
 mv 11 5,
 mv 12 0,
 qo 13 (.p (lenF (tt 12))) [pp 12],
 qo 14 (.p (arF .lss (tt 11) (tt 13))) [pp 11, pp 13]]) (
 .cond (tt 14) (.skip) (.exit 0))) (
 .seq (.block 1 (.seq (.regD [
 mv 17 0,
 mv 18 5,
 qo 19 (.p (iaddrSF (tt 17) (tt 18) 1)) [pp 17, pp 18],
 qo 20 (.r (loadF (tt 19) 1 .sc)) [pp 19],
 mv 21 1,
 mv 22 5,
 qo 23 (.p (iaddrSF (tt 21) (tt 22) 1)) [pp 21, pp 22],
 qo 24 (.r (loadF (tt 23) 1 .sc)) [pp 23],
 qo 25 (.p (eqcF true false [.int .u8] (tt 20) (tt 24))) [pp 20, pp 24]] [0, 0, 3, 7, 0, 0, 48, 112, 255]) (
 .cond (tt 25) (.seq (.reg [
 qo 4 (.p (S.get (.c (.bool false)))) []]) (
 .ret)) (.skip)))) (
 .reg [
 mv 15 5,
 qo 16 (.p (arF .add (tt 15) (ii 1))) [pp 15],
 mv 5 16]))
/-- ashlar/ashlarref00.Same -/
noncomputable def c92 : CFn := ⟨[.tmp (pp 4)],
 .seq (.reg [
 qo 4 (.p (S.get (.c (.bool false)))) []]) (
 .seq (.seq (.reg [
 mv 6 0,
 qo 7 (.p (lenF (tt 6))) [pp 6],
 mv 8 1,
 qo 9 (.p (lenF (tt 8))) [pp 8],
 qo 10 (.p (eqcF true false [.int .i64] (tt 7) (tt 9))) [pp 7, pp 9]]) (
 .cond (tt 10) (.seq (.reg [
 qo 4 (.p (S.get (.c (.bool false)))) []]) (
 .ret)) (.skip))) (
 .seq (.seq (.reg [
 qo 5 (.p (S.get (ii 0))) []]) (
 .block 0 (.loop c92_l0))) (
 .seq (.reg [
 qo 4 (.p (S.get (.c (.bool true)))) []]) (
 .ret))))⟩
theorem c92_eq : fnOf Tryz.prog 92 = some c92 := by kernel_rfl


structure HullAt (H : Heap) (hb b : Bk) (id ev m s r : Int) (S : List Nat) (c : Int) (g : Bool) : Prop where
  own : H.get hb = some (.rows false 24 [hcells b id ev m s r S c g])
  len : S.length = 16
  old : H.Old hb

theorem HullAt.turns {H H' : Heap} {hb b : Bk} {id ev m s r : Int} {S : List Nat} {c : Int} {g : Bool} (h : HullAt H hb b id ev m s r S c g) (k : Turns Z H H') : HullAt H' hb b id ev m s r S c g :=
  ⟨(k.same _ h.old (fun h => h)).trans h.own, h.len, h.old.mono k.next⟩

section
variable {H : Heap} {hb b : Bk} {id ev m s r : Int} {S : List Nat} {c : Int} {g : Bool} (h : HullAt H hb b id ev m s r S c g)
include h
theorem hl_cut {o n : Nat} (hn : o + n ≤ 24) (ho : o < 24) : loadAt H ⟨hb, o⟩ n = some (((hcells b id ev m s r S c g).drop o).take n) := by
  rw [loadAt_eq h.own (r := hcells b id ev m s r S c g) (nth_of (by rw [Nat.div_eq_of_lt ho]; rfl)), Nat.mod_eq_of_lt ho]
  refine cut_thin (h_thin b id ev m s r S c g) ?_
  unfold hcells
  rw [List.length_append, r_len h.len]
  exact hn
theorem hl_b : loadAt H ⟨hb, 0⟩ 1 = some [.ptr (some ⟨b, 0⟩)] := by rw [hl_cut h (by omega) (by omega)]; rfl
theorem hl_id : loadAt H ⟨hb, 1⟩ 1 = some [.int .u64 id] := by rw [hl_cut h (by omega) (by omega)]; rfl
theorem hl_ev : loadAt H ⟨hb, 2⟩ 1 = some [.int .u64 ev] := by rw [hl_cut h (by omega) (by omega)]; rfl
theorem hl_r : loadAt H ⟨hb, 3⟩ 21 = some (rcells m s r S c g) := by
  rw [hl_cut h (by omega) (by omega)]
  show some (List.take 21 (rcells m s r S c g)) = _
  rw [List.take_of_length_le (by rw [r_len h.len]; omega)]

theorem hnone (lf n : Nat) : callS Tryz.prog S0 lf (n + 1) 86 [.ptr (some ⟨hb, 0⟩)] H = some (.v (.bool false), H) := by
  have l := hl_b h
  obtain ⟨v, H', e, rfl, rfl⟩ : ret (callS Tryz.prog S0 lf (n + 1) 86 [.ptr (some ⟨hb, 0⟩)] H) fun v H' => v = .bool false ∧ H' = H := by
    refine ret_call rfl c86_eq ?_
    simp only [c86, l, sy, tup, ↓reduceIte, Nat.reduceEqDiff, Nat.reduceAdd, Nat.reduceSub, Nat.reduceMul, Nat.reduceDiv, Nat.reduceMod, Nat.reduceLeDiff, Int.reduceBEq, reduceCtorEq]
    simp
  exact e
theorem hevent (lf n : Nat) : callS Tryz.prog S0 lf (n + 2) 35 [.ptr (some ⟨hb, 0⟩)] H = some (.v (.int .u64 ev), H) := by
  have l := hl_ev h
  have e := hnone h lf n
  obtain ⟨v, H', e, rfl, rfl⟩ : ret (callS Tryz.prog S0 lf (n + 2) 35 [.ptr (some ⟨hb, 0⟩)] H) fun v H' => v = .int .u64 ev ∧ H' = H := by
    refine ret_call rfl c35_eq ?_
    simp only [c35, e, l, sy, tup, ↓reduceIte, Nat.reduceEqDiff, Nat.reduceAdd, Nat.reduceSub, Nat.reduceMul, Nat.reduceDiv, Nat.reduceMod, Nat.reduceLeDiff, Int.reduceBEq, reduceCtorEq]
    simp
  exact e
theorem hid (lf n : Nat) : callS Tryz.prog S0 lf (n + 2) 82 [.ptr (some ⟨hb, 0⟩)] H = some (.v (.int .u64 id), H) := by
  have l := hl_id h
  have e := hnone h lf n
  obtain ⟨v, H', e, rfl, rfl⟩ : ret (callS Tryz.prog S0 lf (n + 2) 82 [.ptr (some ⟨hb, 0⟩)] H) fun v H' => v = .int .u64 id ∧ H' = H := by
    refine ret_call rfl c82_eq ?_
    simp only [c82, e, l, sy, tup, ↓reduceIte, Nat.reduceEqDiff, Nat.reduceAdd, Nat.reduceSub, Nat.reduceMul, Nat.reduceDiv, Nat.reduceMod, Nat.reduceLeDiff, Int.reduceBEq, reduceCtorEq]
    simp
  exact e
end

def zros : List V := [.int .i64 0, .int .i64 0, .int .i64 0, .int .u8 0, .int .u8 0, .int .u8 0, .int .u8 0, .int .u8 0, .int .u8 0, .int .u8 0, .int .u8 0, .int .u8 0, .int .u8 0, .int .u8 0, .int .u8 0, .int .u8 0, .int .u8 0, .int .u8 0, .int .u8 0, .int .i64 0, .bool false]
theorem put_r {m s r c : Int} {g : Bool} {S : List Nat} (hS : S.length = 16) : put zros 0 (rcells m s r S c g) = some (rcells m s r S c g) := by
  match S, hS with
  | [x0, x1, x2, x3, x4, x5, x6, x7, x8, x9, x10, x11, x12, x13, x14, x15], _ => rfl

theorem hroster {H : Heap} {hb b : Bk} {id ev m s r : Int} {S : List Nat} {c : Int} {g : Bool} (h : HullAt H hb b id ev m s r S c g) (lf n : Nat) : ret (callS Tryz.prog S0 lf (n + 2) 36 [.ptr (some ⟨hb, 0⟩)] H) fun v H' => v = ros m s r S c g ∧ Turns Z H H' := by
  have t1 := Turns.add Z H (.rows false 21 [zros])
  have h1 := h.turns t1
  have l := hl_r h1
  have e := hnone h1 lf n
  have hw := r_width h.len m s r c g
  have hg : (H.add (.rows false 21 [zros])).get (.run H.next) = some (.rows false 21 [zros]) := by rw [Heap.get_add, if_pos rfl]
  have hst : storeAt (H.add (.rows false 21 [zros])) ⟨.run H.next, 0⟩ (rcells m s r S c g) = some ((H.add (.rows false 21 [zros])).set (.run H.next) (.rows false 21 [rcells m s r S c g])) := storeAt_eq hg (r := zros) rfl (put_r h.len)
  have hr : RosAt ((H.add (.rows false 21 [zros])).set (.run H.next) (.rows false 21 [rcells m s r S c g])) (.run H.next) m s r S c g := ⟨by rw [Heap.get_set, if_pos rfl], h.len⟩
  have l2 := ros_all hr
  unfold zros at *
  refine ret_call rfl c36_eq ?_
  simp only [c36, e, l, hw, hst, l2, ros, sy, tup, ↓reduceIte, Nat.reduceEqDiff, Nat.reduceAdd, Nat.reduceSub, Nat.reduceMul, Nat.reduceDiv, Nat.reduceMod, Nat.reduceLeDiff, Int.reduceBEq, reduceCtorEq]
  exact ⟨trivial, .inr trivial, _, rfl, rfl, t1.setnew (Nat.le_refl _) _⟩

theorem same_ok {H : Heap} {b1 b2 : Bk} {m s r c m' s' r' c' : Int} {g g' : Bool} {S : List Nat} (h1 : RosAt H b1 m s r S c g) (h2 : RosAt H b2 m' s' r' S c' g') (lf n : Nat) (hlf : 17 < lf) : callS Tryz.prog S0 lf (n + 1) 92 [.slice (some ⟨b1, 3⟩) 16 16 0, .slice (some ⟨b2, 3⟩) 16 16 0] H = some (.v (.bool true), H) := by
  obtain ⟨v1, H', e, rfl, rfl⟩ : ret (callS Tryz.prog S0 lf (n + 1) 92 [.slice (some ⟨b1, 3⟩) 16 16 0, .slice (some ⟨b2, 3⟩) 16 16 0] H) fun v1 H' => v1 = .bool true ∧ H' = H := by
    refine ret_call rfl c92_eq ?_
    simp only [c92, sy, tup, ↓reduceIte, Nat.reduceEqDiff, Nat.reduceAdd, Nat.reduceSub, Nat.reduceMul, Nat.reduceDiv, Nat.reduceMod, Nat.reduceLeDiff, Int.reduceBEq, reduceCtorEq]
    have hloop : ∀ t : T, t.getP (Tr.path 0) = some (.slice (some ⟨b1, 3⟩) 16 16 0) → t.getP (Tr.path 1) = some (.slice (some ⟨b2, 3⟩) 16 16 0) → t.getP (Tr.path 5) = some (.int .i64 0) →
        wp (loopF (runC (callS Tryz.prog S0 lf n) lf c92_l0) lf ⟨t, H, []⟩) fun x s => x = .ex 0 ∧ s.d = [] ∧ s.H = H := by
      intro t q0 q1 q5
      refine wp_loopF (fun k s => ∃ i : Nat, k = 16 - i ∧ i ≤ 16 ∧ s.d = [] ∧ s.H = H ∧ s.t.getP (Tr.path 0) = some (.slice (some ⟨b1, 3⟩) 16 16 0) ∧ s.t.getP (Tr.path 1) = some (.slice (some ⟨b2, 3⟩) 16 16 0) ∧ s.t.getP (Tr.path 5) = some (.int .i64 (i : Int))) ?_ lf 16 _ ⟨0, rfl, by omega, rfl, rfl, q0, q1, q5⟩ (by omega)
      rintro k ⟨t, HH, d⟩ ⟨i, rfl, hi, hd, hH, q0, q1, q5⟩
      dsimp only at hd hH q0 q1 q5
      subst hd; subst hH
      by_cases hlt : i < 16
      · have hlt' : (i : Int) < ((16 : Nat) : Int) := by omega
        have hle' : i + 1 ≤ 16 := hlt
        have lk := ros_st h1 hlt
        have lk' := ros_st h2 hlt
        have w2 : IntKind.i64.wrap ((i : Int) + 1) = ((i + 1 : Nat) : Int) := by rw [wrap_i64 (by omega)]; omega
        simp only [c92_l0, q0, q1, q5, hlt', hle', w2, lk, lk', sy, tup, ↓reduceIte, Nat.reduceEqDiff, Nat.reduceAdd, Nat.reduceSub, Nat.reduceMul, Nat.reduceDiv, Nat.reduceMod, Nat.reduceLeDiff, Int.reduceBEq, reduceCtorEq]
        rw [endD_ok (by kernel_rfl) (by kernel_rfl)]
        simp only [q0, q1, q5, hle', w2, lk, lk', sy, tup, ↓reduceIte, Nat.reduceEqDiff, Nat.reduceAdd, Nat.reduceSub, Nat.reduceMul, Nat.reduceDiv, Nat.reduceMod, Nat.reduceLeDiff, Int.reduceBEq, reduceCtorEq]
        exact ⟨16 - (i + 1), by omega, i + 1, rfl, by omega, trivial, trivial, by simp [q0], by simp [q1], by simp⟩
      · have : i = 16 := by omega
        subst this
        have hnl : decide (((16 : Nat) : Int) < ((16 : Nat) : Int)) = false := rfl
        have hnl2 : decide (((16 : Nat) : Int) < 16) = false := rfl
        have hnl3 : decide ((16 : Int) < ((16 : Nat) : Int)) = false := rfl
        simp only [c92_l0, q0, q5, hnl, hnl2, hnl3, Nat.lt_irrefl, Int.lt_irrefl, sy, tup, ↓reduceIte, Nat.reduceEqDiff, Nat.reduceAdd, Nat.reduceSub, Nat.reduceMul, Nat.reduceDiv, Nat.reduceMod, Nat.reduceLeDiff, Int.reduceBEq, reduceCtorEq]
        exact ⟨trivial, trivial, trivial⟩
    refine wp_ctx (F := fun r => seqC _ _ _ (blockC _ r)) (hloop _ ?_ ?_ ?_) ?_
    · simp only [sy, tup, ↓reduceIte, Nat.reduceEqDiff, Nat.reduceAdd, Nat.reduceSub, Nat.reduceMul, Nat.reduceDiv, Nat.reduceMod, Nat.reduceLeDiff, Int.reduceBEq, reduceCtorEq]
    · simp only [sy, tup, ↓reduceIte, Nat.reduceEqDiff, Nat.reduceAdd, Nat.reduceSub, Nat.reduceMul, Nat.reduceDiv, Nat.reduceMod, Nat.reduceLeDiff, Int.reduceBEq, reduceCtorEq]
    · simp only [sy, tup, ↓reduceIte, Nat.reduceEqDiff, Nat.reduceAdd, Nat.reduceSub, Nat.reduceMul, Nat.reduceDiv, Nat.reduceMod, Nat.reduceLeDiff, Int.reduceBEq, reduceCtorEq]
    rintro x ⟨t, HH, d⟩ ⟨rfl, hd, hH⟩
    dsimp only at hd hH
    subst hd; subst hH
    simp only [sy, tup, ↓reduceIte, Nat.reduceEqDiff, Nat.reduceAdd, Nat.reduceSub, Nat.reduceMul, Nat.reduceDiv, Nat.reduceMod, Nat.reduceLeDiff, Int.reduceBEq, reduceCtorEq]
    simp
  exact e

theorem ros_r {H : Heap} {b : Bk} {m s r : Int} {S : List Nat} {c : Int} {g : Bool} (h : RosAt H b m s r S c g) : loadAt H ⟨b, 2⟩ 1 = some [.int .i64 r] := by rw [ros_cut h (by omega) (by omega)]; rfl
theorem ros_g {H : Heap} {b : Bk} {m s r : Int} {S : List Nat} {c : Int} {g : Bool} (h : RosAt H b m s r S c g) : loadAt H ⟨b, 20⟩ 1 = some [.bool g] := by
  rw [ros_cut h (by omega) (by omega)]
  unfold rcells
  have e : 20 = [V.int .i64 m, .int .i64 s, .int .i64 r].length + ((sts S).length + 1) := by rw [sts_len, h.len]; rfl
  rw [e, List.drop_length_add_append, List.drop_length_add_append]
  rfl

theorem rosters_ok (H : Heap) {m s r c : Int} {g : Bool} {S : List Nat} (hS : S.length = 16) (lf n : Nat) (hlf : 17 < lf) : ret (callS Tryz.prog S0 lf (n + 2) 39 [ros m s r S c g, ros m s r S c g] H) fun v H' => v = .bool true ∧ Turns Z H H' := by
  have t2 := (Turns.add Z H (.rows false 21 [rcells m s r S c g])).addm (.rows false 21 [rcells m s r S c g])
  have g1 : ((H.add (.rows false 21 [rcells m s r S c g])).add (.rows false 21 [rcells m s r S c g])).get (.run H.next) = some (.rows false 21 [rcells m s r S c g]) := by rw [mem_add (by simp), Heap.get_add, if_pos rfl]
  have g2 : ((H.add (.rows false 21 [rcells m s r S c g])).add (.rows false 21 [rcells m s r S c g])).get (.run (H.next + 1)) = some (.rows false 21 [rcells m s r S c g]) := by rw [Heap.get_add, if_pos (by simp)]
  generalize hH2 : (H.add (.rows false 21 [rcells m s r S c g])).add (.rows false 21 [rcells m s r S c g]) = H2 at *
  have r1 : RosAt H2 (.run H.next) m s r S c g := ⟨g1, hS⟩
  have r2 : RosAt H2 (.run (H.next + 1)) m s r S c g := ⟨g2, hS⟩
  have hw := r_width hS m s r c g
  have eS := same_ok r1 r2 lf n hlf
  have bb : bounds 16 16 none none none = some (0, 16, 16) := rfl
  refine ret_call rfl c39_eq ?_
  simp only [c39, ros, hw, hH2, ros_m r1, ros_m r2, ros_s r1, ros_s r2, ros_r r1, ros_r r2, ros_c r1, ros_c r2, ros_g r1, ros_g r2, bb, eS, sy, tup, ↓reduceIte, Nat.reduceEqDiff, Nat.reduceAdd, Nat.reduceSub, Nat.reduceMul, Nat.reduceDiv, Nat.reduceMod, Nat.reduceLeDiff, Int.reduceBEq, reduceCtorEq]
  rw [endD_ok (by kernel_rfl) (by kernel_rfl)]
  simp only [sy, tup, ↓reduceIte, Nat.reduceEqDiff, Nat.reduceAdd, Nat.reduceSub, Nat.reduceMul, Nat.reduceDiv, Nat.reduceMod, Nat.reduceLeDiff, Int.reduceBEq, reduceCtorEq]
  exact ⟨trivial, .inr trivial, _, rfl, rfl, t2⟩

end Go.Proofs.YtpmdbbdidafehaaGreat.draft


/-
  What an array is: the program's answer and the document's, of a roster that may be.
-/
set_option linter.unusedVariables false
set_option linter.unusedSimpArgs false
set_option maxRecDepth 10000
namespace Go.Proofs.YtpmdbbdidafehaaGreat.draft
open Go.Am

/-- ashlar/roster.State -/
noncomputable def c120 : CFn := ⟨[.tmp (pp 2)],
 .seq (.reg [
 qo 1 (.m (boxF 21 (tt 0))) [pp 0],
 qo 2 (.p (S.get (ii 0))) []]) (
 .seq (.reg [
 qo 7 (.r (loadF (tt 1) 21 .ag)) [pp 1],
 qo 8 (.c (callF (ff 147) [(tt 7)])) [pp 7],
 mv 6 8,
 qo 9 (.p (extF (tt 6) 0)) [pp 6],
 qo 10 (.p (extF (tt 6) 1)) [pp 6],
 mv 3 9,
 mv 4 10]) (
 .seq (.seq (.reg [
 qo 11 (.r (loadF (tt 1) 21 .ag)) [pp 1],
 qo 12 (.c (callF (ff 148) [(tt 11)])) [pp 11],
 mv 5 12]) (
 .block 0 (.seq (.reg [
 qo 14 (.r (loadF (tt 1) 21 .ag)) [pp 1],
 qo 15 (.c (callF (ff 75) [(tt 14)])) [pp 14],
 qo 16 (.p (unF .not (tt 15))) [pp 15],
 mv 13 16]) (
 .cond (tt 13) (.seq (.reg [
 qo 2 (.p (S.get (ii 0))) []]) (
 .ret)) (.seq (.seq (.reg [
 mv 18 5,
 qo 19 (.p (arF .gtr (tt 18) (ii 1))) [pp 18],
 mv 17 19]) (
 .cond (tt 17) (.skip) (.reg [
 mv 20 5,
 qo 21 (.p (eqcF false false [.int .i64] (tt 20) (ii 1))) [pp 20],
 mv 22 21,
 qg 23 (.p (faddrF (tt 1) 20)) 22 true [pp 1],
 qg 24 (.r (loadF (tt 23) 1 .sc)) 22 true [pp 23],
 qo 25 (.p (pickF (tt 22) (tt 24) (.c (.bool false)))) [pp 22, pp 24],
 mv 17 25]))) (
 .cond (tt 17) (.seq (.reg [
 qo 2 (.p (S.get (ii 5))) []]) (
 .ret)) (.seq (.reg [
 qo 27 (.p (faddrF (tt 1) 20)) [pp 1],
 qo 28 (.r (loadF (tt 27) 1 .sc)) [pp 27],
 mv 26 28]) (
 .cond (tt 26) (.seq (.reg [
 qo 2 (.p (S.get (ii 4))) []]) (
 .ret)) (.seq (.reg [
 mv 30 4,
 mv 29 30]) (
 .cond (tt 29) (.seq (.reg [
 qo 2 (.p (S.get (ii 3))) []]) (
 .ret)) (.seq (.reg [
 mv 32 5,
 qo 33 (.p (eqcF false false [.int .i64] (tt 32) (ii 1))) [pp 32],
 mv 31 33]) (
 .cond (tt 31) (.seq (.reg [
 qo 2 (.p (S.get (ii 2))) []]) (
 .ret)) (.skip))))))))))))) (
 .seq (.reg [
 qo 2 (.p (S.get (ii 1))) []]) (
 .ret))))⟩
theorem c120_eq : fnOf Tryz.prog 120 = some c120 := by kernel_rfl

noncomputable def c147_l0 : C := .seq (.reg [
 qo 12 (.p (arF .lss (tt 11) (ii 16))) [pp 11]]) (
 .seq (.cond (tt 12) (.skip) (.exit 0)) (
 .seq (.block 1 (.seq (.reg [
 mv 13 11,
 qo 14 (.p (idxAF (tt 10) (tt 11) 16 1 .sc)) [pp 10, pp 11],
 mv 4 13,
 mv 5 14]) (
 .seq (.reg [
 mv 15 5,
 qo 16 (.p (eqcF false false [.int .u8] (tt 15) (.c (.int .u8 2)))) [pp 15]]) (
 .cond (tt 16) (.seq (.reg [
 mv 17 4,
 mv 2 17,
 qo 3 (.p (S.get (.c (.bool true)))) []]) (
 .ret)) (.skip))))) (
 .reg [
 qo 18 (.p (arF .add (tt 11) (ii 1))) [pp 11],
 mv 11 18])))
/-- ashlar/roster.Heals -/
noncomputable def c147 : CFn := ⟨[.tmp (pp 2), .tmp (pp 3)],
 .seq (.reg [
 qo 1 (.m (boxF 21 (tt 0))) [pp 0],
 qo 2 (.p (S.get (ii 0))) [],
 qo 3 (.p (S.get (.c (.bool false)))) []]) (
 .seq (.seq (.reg [
 qo 6 (.r (loadF (tt 1) 21 .ag)) [pp 1],
 qo 7 (.c (callF (ff 75) [(tt 6)])) [pp 6],
 qo 8 (.p (unF .not (tt 7))) [pp 7]]) (
 .cond (tt 8) (.seq (.reg [
 qo 2 (.p (S.get (ii 0))) [],
 qo 3 (.p (S.get (.c (.bool false)))) []]) (
 .ret)) (.skip))) (
 .seq (.seq (.reg [
 qo 9 (.p (faddrF (tt 1) 3)) [pp 1],
 qo 10 (.r (loadF (tt 9) 16 .ag)) [pp 9],
 qo 11 (.p (S.get (ii 0))) []]) (
 .block 0 (.loop c147_l0))) (
 .seq (.reg [
 qo 2 (.p (S.get (ii 0))) [],
 qo 3 (.p (S.get (.c (.bool false)))) []]) (
 .ret))))⟩
theorem c147_eq : fnOf Tryz.prog 147 = some c147 := by kernel_rfl

/-- ashlar/roster.Missing -/
noncomputable def c148 : CFn := ⟨[.tmp (pp 2)],
 .seq (.reg [
 qo 1 (.m (boxF 21 (tt 0))) [pp 0],
 qo 2 (.p (S.get (ii 0))) []]) (
 .seq (.seq (.reg [
 qo 3 (.r (loadF (tt 1) 21 .ag)) [pp 1],
 qo 4 (.c (callF (ff 75) [(tt 3)])) [pp 3],
 qo 5 (.p (unF .not (tt 4))) [pp 4]]) (
 .cond (tt 5) (.seq (.reg [
 qo 2 (.p (S.get (ii 0))) []]) (
 .ret)) (.skip))) (
 .seq (.reg [
 qo 6 (.r (loadF (tt 1) 21 .ag)) [pp 1],
 qo 7 (.c (callF (ff 118) [(tt 6), (.c (.int .u8 0))])) [pp 6],
 qo 8 (.p (arF .sub (ii 16) (tt 7))) [pp 7],
 mv 2 8]) (
 .ret)))⟩
theorem c148_eq : fnOf Tryz.prog 148 = some c148 := by kernel_rfl

/-- (*ashlar/hull.Hull).State -/
noncomputable def c79 : CFn := ⟨[.tmp (pp 2)],
 .seq (.reg [
 qo 2 (.p (S.get (ii 0))) []]) (
 .seq (.seq (.reg [
 mv 3 0,
 qo 4 (.c (callF (ff 86) [(tt 3)])) [pp 3]]) (
 .cond (tt 4) (.seq (.reg [
 qo 2 (.p (S.get (ii 0))) []]) (
 .ret)) (.skip))) (
 .seq (.reg [
 mv 5 0,
 qo 6 (.p (nilcF (tt 5))) [pp 5],
 qo 7 (.p (faddrF (tt 6) 3)) [pp 6],
 qo 8 (.r (loadF (tt 7) 21 .ag)) [pp 7],
 qo 9 (.c (callF (ff 120) [(tt 8)])) [pp 8],
 mv 2 9]) (
 .ret)))⟩
theorem c79_eq : fnOf Tryz.prog 79 = some c79 := by kernel_rfl

/-- ashlar/ashlarref10.State -/
noncomputable def c72 : CFn := ⟨[.tmp (pp 2)],
 .seq (.reg [
 qo 1 (.m (boxF 21 (tt 0))) [pp 0],
 qo 2 (.p (S.get (ii 0))) []]) (
 .seq (.seq (.reg [
 qo 6 (.r (loadF (tt 1) 21 .ag)) [pp 1],
 qo 7 (.c (callF (ff 80) [(tt 6)])) [pp 6],
 qo 8 (.p (unF .not (tt 7))) [pp 7]]) (
 .cond (tt 8) (.seq (.reg [
 qo 2 (.p (S.get (ii 0))) []]) (
 .ret)) (.skip))) (
 .seq (.reg [
 qo 9 (.r (loadF (tt 1) 21 .ag)) [pp 1],
 qo 10 (.c (callF (ff 115) [(tt 9)])) [pp 9],
 mv 3 10]) (
 .seq (.reg [
 qo 12 (.r (loadF (tt 1) 21 .ag)) [pp 1],
 qo 13 (.c (callF (ff 116) [(tt 12)])) [pp 12],
 mv 11 13,
 qo 14 (.p (extF (tt 11) 0)) [pp 11],
 qo 15 (.p (extF (tt 11) 1)) [pp 11],
 mv 4 14,
 mv 5 15]) (
 .seq (.seq (.reg [
 mv 16 3,
 qo 17 (.p (arF .geq (tt 16) (ii 2))) [pp 16],
 mv 18 17,
 mg 19 3 18 false,
 qg 20 (.p (eqcF false false [.int .i64] (tt 19) (ii 1))) 18 false [pp 19],
 mg 21 20 18 false,
 qg 22 (.p (faddrF (tt 1) 20)) 21 true [pp 1],
 qg 23 (.r (loadF (tt 22) 1 .sc)) 21 true [pp 22],
 qg 24 (.p (pickF (tt 21) (tt 23) (.c (.bool false)))) 18 false [pp 21, pp 23],
 qo 25 (.p (pickF (tt 18) (.c (.bool true)) (tt 24))) [pp 18, pp 24]]) (
 .cond (tt 25) (.seq (.reg [
 qo 2 (.p (S.get (ii 5))) []]) (
 .ret)) (.skip))) (
 .seq (.seq (.reg [
 qo 26 (.p (faddrF (tt 1) 20)) [pp 1],
 qo 27 (.r (loadF (tt 26) 1 .sc)) [pp 26]]) (
 .cond (tt 27) (.seq (.reg [
 qo 2 (.p (S.get (ii 4))) []]) (
 .ret)) (.skip))) (
 .seq (.seq (.reg [
 mv 28 5]) (
 .cond (tt 28) (.seq (.reg [
 qo 2 (.p (S.get (ii 3))) []]) (
 .ret)) (.skip))) (
 .seq (.seq (.reg [
 mv 29 3,
 qo 30 (.p (eqcF false false [.int .i64] (tt 29) (ii 1))) [pp 29]]) (
 .cond (tt 30) (.seq (.reg [
 qo 2 (.p (S.get (ii 2))) []]) (
 .ret)) (.skip))) (
 .seq (.reg [
 qo 2 (.p (S.get (ii 1))) []]) (
 .ret)))))))))⟩
theorem c72_eq : fnOf Tryz.prog 72 = some c72 := by kernel_rfl

noncomputable def c115_l0 : C := .seq (.seq (.reg [
 mv 5 4,
 qo 6 (.p (arF .lss (tt 5) (ii 16))) [pp 5],
 mv 7 6,
 qg 8 (.r (loadF (tt 1) 21 .ag)) 7 true [pp 1],
 qg 9 (.c (callF (ff 80) [(tt 8)])) 7 true [pp 8],
 qo 10 (.p (pickF (tt 7) (tt 9) (.c (.bool false)))) [pp 7, pp 9]]) (
 .cond (tt 10) (.skip) (.exit 0))) (
 .seq (.block 1 (.seq (.reg [
 mv 13 4,
 qo 14 (.p (faddrF (tt 1) 3)) [pp 1],
 qo 15 (.p (iaddrAF (tt 14) (tt 13) 16 1)) [pp 14, pp 13],
 qo 16 (.r (loadF (tt 15) 1 .sc)) [pp 15],
 qo 17 (.p (eqcF true false [.int .u8] (tt 16) (.c (.int .u8 0)))) [pp 16]]) (
 .cond (tt 17) (.reg [
 mv 18 3,
 qo 19 (.p (arF .add (tt 18) (ii 1))) [pp 18],
 mv 3 19]) (.skip)))) (
 .reg [
 mv 11 4,
 qo 12 (.p (arF .add (tt 11) (ii 1))) [pp 11],
 mv 4 12]))
/-- ashlar/ashlarref10.Missing -/
noncomputable def c115 : CFn := ⟨[.tmp (pp 2)],
 .seq (.reg [
 qo 1 (.m (boxF 21 (tt 0))) [pp 0],
 qo 2 (.p (S.get (ii 0))) []]) (
 .seq (.reg [
 qo 3 (.p (S.get (ii 0))) []]) (
 .seq (.seq (.reg [
 qo 4 (.p (S.get (ii 0))) []]) (
 .block 0 (.loop c115_l0))) (
 .seq (.reg [
 mv 20 3,
 mv 2 20]) (
 .ret))))⟩
theorem c115_eq : fnOf Tryz.prog 115 = some c115 := by kernel_rfl

noncomputable def c116_l0 : C := .seq (.seq (.reg [
 mv 5 4,
 qo 6 (.p (arF .lss (tt 5) (ii 16))) [pp 5],
 mv 7 6,
 qg 8 (.r (loadF (tt 1) 21 .ag)) 7 true [pp 1],
 qg 9 (.c (callF (ff 80) [(tt 8)])) 7 true [pp 8],
 qo 10 (.p (pickF (tt 7) (tt 9) (.c (.bool false)))) [pp 7, pp 9]]) (
 .cond (tt 10) (.skip) (.exit 0))) (
 .seq (.block 1 (.seq (.reg [
 mv 13 4,
 qo 14 (.p (faddrF (tt 1) 3)) [pp 1],
 qo 15 (.p (iaddrAF (tt 14) (tt 13) 16 1)) [pp 14, pp 13],
 qo 16 (.r (loadF (tt 15) 1 .sc)) [pp 15],
 qo 17 (.p (eqcF false false [.int .u8] (tt 16) (.c (.int .u8 2)))) [pp 16]]) (
 .cond (tt 17) (.seq (.reg [
 mv 18 4,
 mv 2 18,
 qo 3 (.p (S.get (.c (.bool true)))) []]) (
 .ret)) (.skip)))) (
 .reg [
 mv 11 4,
 qo 12 (.p (arF .add (tt 11) (ii 1))) [pp 11],
 mv 4 12]))
/-- ashlar/ashlarref10.Heals -/
noncomputable def c116 : CFn := ⟨[.tmp (pp 2), .tmp (pp 3)],
 .seq (.reg [
 qo 1 (.m (boxF 21 (tt 0))) [pp 0],
 qo 2 (.p (S.get (ii 0))) [],
 qo 3 (.p (S.get (.c (.bool false)))) []]) (
 .seq (.seq (.reg [
 qo 4 (.p (S.get (ii 0))) []]) (
 .block 0 (.loop c116_l0))) (
 .seq (.reg [
 qo 2 (.p (S.get (ii 0))) [],
 qo 3 (.p (S.get (.c (.bool false)))) []]) (
 .ret)))⟩
theorem c116_eq : fnOf Tryz.prog 116 = some c116 := by kernel_rfl


def heals (S : List Nat) : Bool := decide (0 < cnt S 2)
def stateOf (S : List Nat) (g : Bool) : Int := if cnt S 0 < 15 ∨ (cnt S 0 = 15 ∧ g = true) then 5 else if g = true then 4 else if heals S = true then 3 else if cnt S 0 = 15 then 2 else 1

section
variable {m s r c : Int} {g : Bool} {S : List Nat} (hS : S.length = 16) (hf : fine m s r S c)
include hS hf

theorem missing_ok (H : Heap) (lf n : Nat) (hlf : 17 < lf) : ret (callS Tryz.prog S0 lf (n + 4) 148 [ros m s r S c g] H) fun v H' => v = .int .i64 (16 - (cnt S 0 : Int)) ∧ Turns Z H H' := by
  have t1 := Turns.add Z H (.rows false 21 [rcells m s r S c g])
  have hg : (H.add (.rows false 21 [rcells m s r S c g])).get (.run H.next) = some (.rows false 21 [rcells m s r S c g]) := by rw [Heap.get_add, if_pos rfl]
  have og : (H.add (.rows false 21 [rcells m s r S c g])).Old (.run H.next) := by show _ < _; simp
  have hr : ∀ {H' : Heap}, Turns Z (H.add (.rows false 21 [rcells m s r S c g])) H' → RosAt H' (.run H.next) m s r S c g := fun t => ⟨(t.same _ og (fun h => h)).trans hg, hS⟩
  have hw := r_width hS m s r c g
  generalize hH1 : H.add (.rows false 21 [rcells m s r S c g]) = H1 at *
  have a1 := ros_all (hr (Turns.refl Z H1))
  obtain ⟨v, H2, e2, ⟨z, rfl, hz⟩, t2⟩ := pmay_ok H1 (m := m) (s := s) (r := r) (c := c) (g := g) hS lf n hlf
  obtain rfl : z = true := hz.2 hf
  unfold ros at e2
  have a2 := ros_all (hr t2)
  obtain ⟨v, H3, e3, rfl, t3⟩ := count_ok H2 (m := m) (s := s) (r := r) (c := c) (g := g) hS 0 lf (n + 2) hlf
  unfold ros at e3
  have e3 : callS Tryz.prog S0 lf (n + 3) 118 [.agg (rcells m s r S c g), .int .u8 0] H2 = some (.v (.int .i64 (cnt S 0 : Int)), H3) := e3
  have hn := cnt_le S 0
  have w1 : IntKind.i64.wrap (16 - (cnt S 0 : Int)) = 16 - (cnt S 0 : Int) := wrap_i64 (by omega)
  refine ret_call rfl c148_eq ?_
  simp only [c148, ros, hw, hH1, a1, e2, a2, e3, w1, sy, tup, ↓reduceIte, Nat.reduceEqDiff, Nat.reduceAdd, Nat.reduceSub, Nat.reduceMul, Nat.reduceDiv, Nat.reduceMod, Nat.reduceLeDiff, Int.reduceBEq, reduceCtorEq]
  exact ⟨trivial, .inr trivial, _, rfl, rfl, (t1.trans t2).trans t3⟩

theorem heals_ok (H : Heap) (lf n : Nat) (hlf : 17 < lf) : ret (callS Tryz.prog S0 lf (n + 4) 147 [ros m s r S c g] H) fun v H' => (∃ z, v = .tuple [.int .i64 z, .bool (heals S)]) ∧ Turns Z H H' := by
  have t1 := Turns.add Z H (.rows false 21 [rcells m s r S c g])
  have hg : (H.add (.rows false 21 [rcells m s r S c g])).get (.run H.next) = some (.rows false 21 [rcells m s r S c g]) := by rw [Heap.get_add, if_pos rfl]
  have og : (H.add (.rows false 21 [rcells m s r S c g])).Old (.run H.next) := by show _ < _; simp
  have hr : ∀ {H' : Heap}, Turns Z (H.add (.rows false 21 [rcells m s r S c g])) H' → RosAt H' (.run H.next) m s r S c g := fun t => ⟨(t.same _ og (fun h => h)).trans hg, hS⟩
  have hw := r_width hS m s r c g
  generalize hH1 : H.add (.rows false 21 [rcells m s r S c g]) = H1 at *
  have a1 := ros_all (hr (Turns.refl Z H1))
  obtain ⟨v, H2, e2, ⟨z, rfl, hz⟩, t2⟩ := pmay_ok H1 (m := m) (s := s) (r := r) (c := c) (g := g) hS lf n hlf
  obtain rfl : z = true := hz.2 hf
  unfold ros at e2
  have a2 := ros_sts (hr t2)
  refine ret_call rfl c147_eq ?_
  simp only [c147, ros, hw, hH1, a1, e2, a2, sy, tup, ↓reduceIte, Nat.reduceEqDiff, Nat.reduceAdd, Nat.reduceSub, Nat.reduceMul, Nat.reduceDiv, Nat.reduceMod, Nat.reduceLeDiff, Int.reduceBEq, reduceCtorEq]
  have hloop : ∀ t : T, t.getP (Tr.path 10) = some (.agg (sts S)) → t.getP (Tr.path 11) = some (.int .i64 0) →
      wp (loopF (runC (callS Tryz.prog S0 lf (n + 3)) lf c147_l0) lf ⟨t, H2, []⟩) fun x' s' => s'.d = [] ∧ s'.H = H2 ∧ ((x' = .ex 0 ∧ heals S = false) ∨ (x' = .ret ∧ heals S = true ∧ (∃ z, s'.t.getP (Tr.path 2) = some (.int .i64 z)) ∧ s'.t.getP (Tr.path 3) = some (.bool true))) := by
    intro t q10 q11
    refine wp_loopF (fun j s' => ∃ i : Nat, j = 16 - i ∧ i ≤ 16 ∧ s'.d = [] ∧ s'.H = H2 ∧ cnt (S.take i) 2 = 0 ∧ s'.t.getP (Tr.path 10) = some (.agg (sts S)) ∧ s'.t.getP (Tr.path 11) = some (.int .i64 (i : Int))) ?_ lf 16 _ ⟨0, rfl, by omega, rfl, rfl, rfl, q10, q11⟩ (by omega)
    rintro j ⟨t, HH, d⟩ ⟨i, rfl, hi, hd, hH, hz, q10, q11⟩
    dsimp only at hd hH q10 q11
    subst hd; subst hH
    by_cases hlt : i < 16
    · have hlt' : (i : Int) < 16 := by omega
      have hle' : i + 1 ≤ 16 := hlt
      have hiS : i < S.length := by omega
      have hc := sts_cut hiS
      have w1 : IntKind.i64.wrap ((i : Int) + 1) = ((i + 1 : Nat) : Int) := by rw [wrap_i64 (by omega)]; omega
      have hk := cnt_take (x := 2) hiS
      by_cases e : S[i] = 2
      · have hb : (((S[i] : Nat) : Int) == 2) = true := by simp [e]
        have hh : heals S = true := by
          unfold heals cnt
          refine decide_eq_true (List.length_pos_iff.mpr (fun he => ?_))
          have := List.filter_eq_nil_iff.1 he S[i] (List.getElem_mem hiS)
          simp [e] at this
        simp only [c147_l0, q10, q11, hlt', hle', hc, hb, sy, tup, ↓reduceIte, Nat.reduceEqDiff, Nat.reduceAdd, Nat.reduceSub, Nat.reduceMul, Nat.reduceDiv, Nat.reduceMod, Nat.reduceLeDiff, Int.reduceBEq, reduceCtorEq]
        exact ⟨trivial, trivial, .inr ⟨trivial, hh, ⟨_, rfl⟩, trivial⟩⟩
      · rw [if_neg e, Nat.add_zero, hz] at hk
        have hb : (((S[i] : Nat) : Int) == 2) = false := by simp; omega
        simp only [c147_l0, q10, q11, hlt', hle', hc, hb, w1, sy, tup, ↓reduceIte, Nat.reduceEqDiff, Nat.reduceAdd, Nat.reduceSub, Nat.reduceMul, Nat.reduceDiv, Nat.reduceMod, Nat.reduceLeDiff, Int.reduceBEq, reduceCtorEq]
        exact ⟨16 - (i + 1), by omega, i + 1, rfl, by omega, trivial, trivial, hk, by simp [q10], by simp⟩
    · have : i = 16 := by omega
      subst this
      have hnl : decide (((16 : Nat) : Int) < 16) = false := rfl
      rw [List.take_of_length_le (by omega)] at hz
      simp only [c147_l0, q10, q11, hnl, sy, tup, ↓reduceIte, Nat.reduceEqDiff, Nat.reduceAdd, Nat.reduceSub, Nat.reduceMul, Nat.reduceDiv, Nat.reduceMod, Nat.reduceLeDiff, Int.reduceBEq, reduceCtorEq]
      exact ⟨trivial, trivial, .inl ⟨trivial, by unfold heals; rw [hz]; rfl⟩⟩
  refine wp_ctx (F := fun r => seqC _ _ _ (blockC _ r)) (hloop _ ?_ ?_) ?_
  · simp only [sy, tup, ↓reduceIte, Nat.reduceEqDiff, Nat.reduceAdd, Nat.reduceSub, Nat.reduceMul, Nat.reduceDiv, Nat.reduceMod, Nat.reduceLeDiff, Int.reduceBEq, reduceCtorEq]
  · simp only [sy, tup, ↓reduceIte, Nat.reduceEqDiff, Nat.reduceAdd, Nat.reduceSub, Nat.reduceMul, Nat.reduceDiv, Nat.reduceMod, Nat.reduceLeDiff, Int.reduceBEq, reduceCtorEq]
  rintro x' ⟨t, HH, d⟩ ⟨hd, hH, ⟨rfl, hh⟩ | ⟨rfl, hh, ⟨z, q2⟩, q3⟩⟩
  · dsimp only at hd hH
    subst hd; subst hH
    simp only [sy, tup, ↓reduceIte, Nat.reduceEqDiff, Nat.reduceAdd, Nat.reduceSub, Nat.reduceMul, Nat.reduceDiv, Nat.reduceMod, Nat.reduceLeDiff, Int.reduceBEq, reduceCtorEq]
    exact ⟨trivial, .inr trivial, _, rfl, ⟨0, by rw [hh]⟩, t1.trans t2⟩
  · dsimp only at hd hH q2 q3
    subst hd; subst hH
    simp only [q2, q3, sy, tup, ↓reduceIte, Nat.reduceEqDiff, Nat.reduceAdd, Nat.reduceSub, Nat.reduceMul, Nat.reduceDiv, Nat.reduceMod, Nat.reduceLeDiff, Int.reduceBEq, reduceCtorEq]
    exact ⟨trivial, .inr trivial, _, rfl, ⟨z, by rw [hh]⟩, t1.trans t2⟩

theorem state_ok (H : Heap) (lf n : Nat) (hlf : 17 < lf) : ret (callS Tryz.prog S0 lf (n + 5) 120 [ros m s r S c g] H) fun v H' => v = .int .i64 (stateOf S g) ∧ Turns Z H H' := by
  have t1 := Turns.add Z H (.rows false 21 [rcells m s r S c g])
  have hg : (H.add (.rows false 21 [rcells m s r S c g])).get (.run H.next) = some (.rows false 21 [rcells m s r S c g]) := by rw [Heap.get_add, if_pos rfl]
  have og : (H.add (.rows false 21 [rcells m s r S c g])).Old (.run H.next) := by show _ < _; simp
  have hr : ∀ {H' : Heap}, Turns Z (H.add (.rows false 21 [rcells m s r S c g])) H' → RosAt H' (.run H.next) m s r S c g := fun t => ⟨(t.same _ og (fun h => h)).trans hg, hS⟩
  have hw := r_width hS m s r c g
  generalize hH1 : H.add (.rows false 21 [rcells m s r S c g]) = H1 at *
  have a1 := ros_all (hr (Turns.refl Z H1))
  obtain ⟨v, H2, e2, ⟨z2, rfl⟩, t2⟩ := heals_ok hS hf (g := g) H1 lf n hlf
  unfold ros at e2
  have a2 := ros_all (hr t2)
  obtain ⟨v, H3, e3, rfl, t3⟩ := missing_ok hS hf (g := g) H2 lf n hlf
  unfold ros at e3
  have a3 := ros_all (hr (t2.trans t3))
  obtain ⟨v, H4, e4, ⟨z, rfl, hz⟩, t4⟩ := pmay_ok H3 (m := m) (s := s) (r := r) (c := c) (g := g) hS lf (n + 1) hlf
  obtain rfl : z = true := hz.2 hf
  unfold ros at e4
  have lg := ros_g (hr ((t2.trans t3).trans t4))
  have tt := ((t1.trans t2).trans t3).trans t4
  have hn := cnt_le S 0
  refine ret_call rfl c120_eq ?_
  unfold stateOf
  generalize heals S = hh at *
  by_cases h1 : cnt S 0 < 15
  · have h1' : (1 : Int) < 16 - (cnt S 0 : Int) := by omega
    simp only [c120, ros, hw, hH1, a1, a2, a3, e2, e3, e4, h1', sy, tup, ↓reduceIte, Nat.reduceEqDiff, Nat.reduceAdd, Nat.reduceSub, Nat.reduceMul, Nat.reduceDiv, Nat.reduceMod, Nat.reduceLeDiff, Int.reduceBEq, reduceCtorEq]
    exact ⟨trivial, .inr trivial, _, rfl, by simp [h1], tt⟩
  · have h1' : ¬ (1 : Int) < 16 - (cnt S 0 : Int) := by omega
    by_cases h15 : cnt S 0 = 15
    · have hb : ((16 - (cnt S 0 : Int)) == 1) = true := by rw [h15]; rfl
      cases g <;> cases hh <;> (simp only [c120, ros, hw, hH1, a1, a2, a3, e2, e3, e4, h1', hb, lg, sy, tup, ↓reduceIte, Nat.reduceEqDiff, Nat.reduceAdd, Nat.reduceSub, Nat.reduceMul, Nat.reduceDiv, Nat.reduceMod, Nat.reduceLeDiff, Int.reduceBEq, reduceCtorEq]; exact ⟨trivial, .inr trivial, _, rfl, by simp [h15], tt⟩)
    · have hb : ((16 - (cnt S 0 : Int)) == 1) = false := by simp; omega
      cases g <;> cases hh <;> (simp only [c120, ros, hw, hH1, a1, a2, a3, e2, e3, e4, h1', hb, lg, sy, tup, ↓reduceIte, Nat.reduceEqDiff, Nat.reduceAdd, Nat.reduceSub, Nat.reduceMul, Nat.reduceDiv, Nat.reduceMod, Nat.reduceLeDiff, Int.reduceBEq, reduceCtorEq]; exact ⟨trivial, .inr trivial, _, rfl, by simp [h1, h15], tt⟩)
end

theorem hstate {H : Heap} {hb b : Bk} {id ev m s r : Int} {S : List Nat} {c : Int} {g : Bool} (h : HullAt H hb b id ev m s r S c g) (hf : fine m s r S c) (lf n : Nat) (hlf : 17 < lf) : ret (callS Tryz.prog S0 lf (n + 6) 79 [.ptr (some ⟨hb, 0⟩)] H) fun v H' => v = .int .i64 (stateOf S g) ∧ Turns Z H H' := by
  have l := hl_r h
  have e := hnone h lf (n + 4)
  obtain ⟨v, H2, e2, rfl, t2⟩ := state_ok h.len hf (g := g) H lf n hlf
  unfold ros at e2
  refine ret_call rfl c79_eq ?_
  simp only [c79, e, l, e2, sy, tup, ↓reduceIte, Nat.reduceEqDiff, Nat.reduceAdd, Nat.reduceSub, Nat.reduceMul, Nat.reduceDiv, Nat.reduceMod, Nat.reduceLeDiff, Int.reduceBEq, reduceCtorEq]
  exact ⟨trivial, .inr trivial, _, rfl, rfl, t2⟩

end Go.Proofs.YtpmdbbdidafehaaGreat.draft


/-
  What an array is, as the document has it.
-/
set_option linter.unusedVariables false
set_option linter.unusedSimpArgs false
set_option maxRecDepth 10000
namespace Go.Proofs.YtpmdbbdidafehaaGreat.draft
open Go.Am

section
variable {m s r c : Int} {g : Bool} {S : List Nat} (hS : S.length = 16) (hf : fine m s r S c)
include hS hf

theorem rmissing_ok (H : Heap) (lf n : Nat) (hlf : 17 < lf) : ret (callS Tryz.prog S0 lf (n + 4) 115 [ros m s r S c g] H) fun v H' => v = .int .i64 (16 - (cnt S 0 : Int)) ∧ Turns Z H H' := by
  have t1 := Turns.add Z H (.rows false 21 [rcells m s r S c g])
  have hg : (H.add (.rows false 21 [rcells m s r S c g])).get (.run H.next) = some (.rows false 21 [rcells m s r S c g]) := by rw [Heap.get_add, if_pos rfl]
  have og : (H.add (.rows false 21 [rcells m s r S c g])).Old (.run H.next) := by show _ < _; simp
  have hr : ∀ {H' : Heap}, Turns Z (H.add (.rows false 21 [rcells m s r S c g])) H' → RosAt H' (.run H.next) m s r S c g := fun t => ⟨(t.same _ og (fun h => h)).trans hg, hS⟩
  have hw := r_width hS m s r c g
  generalize hH1 : H.add (.rows false 21 [rcells m s r S c g]) = H1 at *
  refine ret_call rfl c115_eq ?_
  simp only [c115, ros, hw, hH1, sy, tup, ↓reduceIte, Nat.reduceEqDiff, Nat.reduceAdd, Nat.reduceSub, Nat.reduceMul, Nat.reduceDiv, Nat.reduceMod, Nat.reduceLeDiff, Int.reduceBEq, reduceCtorEq]
  have hloop : ∀ t : T, t.getP (Tr.path 1) = some (.ptr (some ⟨.run H.next, 0⟩)) → t.getP (Tr.path 3) = some (.int .i64 0) → t.getP (Tr.path 4) = some (.int .i64 0) →
      wp (loopF (runC (callS Tryz.prog S0 lf (n + 3)) lf c115_l0) lf ⟨t, H1, []⟩) fun x' s' => x' = .ex 0 ∧ s'.d = [] ∧ Turns Z H1 s'.H ∧ s'.t.getP (Tr.path 3) = some (.int .i64 (16 - (cnt S 0 : Int))) := by
    intro t q1 q3 q4
    refine wp_loopF (fun j s' => ∃ i : Nat, j = 16 - i ∧ i ≤ 16 ∧ s'.d = [] ∧ Turns Z H1 s'.H ∧ s'.t.getP (Tr.path 1) = some (.ptr (some ⟨.run H.next, 0⟩)) ∧ s'.t.getP (Tr.path 3) = some (.int .i64 ((i : Int) - (cnt (S.take i) 0 : Int))) ∧ s'.t.getP (Tr.path 4) = some (.int .i64 (i : Int))) ?_ lf 16 _ ⟨0, rfl, by omega, rfl, Turns.refl _ _, q1, q3, q4⟩ (by omega)
    rintro j ⟨t, HH, d⟩ ⟨i, rfl, hi, hd, tz, q1, q3, q4⟩
    dsimp only at hd tz q1 q3 q4
    subst hd
    by_cases hlt : i < 16
    · have hlt' : (i : Int) < 16 := by omega
      have hle' : i + 1 ≤ 16 := hlt
      have hiS : i < S.length := by omega
      have aH := ros_all (hr tz)
      obtain ⟨v, H2, e2, ⟨z, rfl, hz⟩, t2⟩ := rosmay_ok HH (m := m) (s := s) (r := r) (c := c) (g := g) hS lf n hlf
      obtain rfl : z = true := hz.2 hf
      unfold ros at e2
      have tz2 := tz.trans t2
      have lx := ros_st (hr tz2) hlt
      have hn := cnt_le (S.take i) 0
      rw [List.length_take] at hn
      have hk := cnt_take (x := 0) hiS
      have w1 : IntKind.i64.wrap ((i : Int) + 1) = ((i + 1 : Nat) : Int) := by rw [wrap_i64 (by omega)]; omega
      have w2 : IntKind.i64.wrap ((i : Int) - (cnt (S.take i) 0 : Int) + 1) = (i : Int) - (cnt (S.take i) 0 : Int) + 1 := wrap_i64 (by omega)
      by_cases e : S[i] = 0
      · have hb : (((S[i] : Nat) : Int) == 0) = true := by simp [e]
        rw [if_pos e] at hk
        simp only [c115_l0, q1, q3, q4, hlt', hle', aH, e2, lx, hb, w1, sy, tup, ↓reduceIte, Nat.reduceEqDiff, Nat.reduceAdd, Nat.reduceSub, Nat.reduceMul, Nat.reduceDiv, Nat.reduceMod, Nat.reduceLeDiff, Int.reduceBEq, reduceCtorEq]
        exact ⟨16 - (i + 1), by omega, i + 1, rfl, by omega, trivial, tz2, by simp [q1], by simp [q3, hk]; omega, by simp⟩
      · have hb : (((S[i] : Nat) : Int) == 0) = false := by simp; omega
        rw [if_neg e, Nat.add_zero] at hk
        simp only [c115_l0, q1, q3, q4, hlt', hle', aH, e2, lx, hb, w1, w2, sy, tup, ↓reduceIte, Nat.reduceEqDiff, Nat.reduceAdd, Nat.reduceSub, Nat.reduceMul, Nat.reduceDiv, Nat.reduceMod, Nat.reduceLeDiff, Int.reduceBEq, reduceCtorEq]
        exact ⟨16 - (i + 1), by omega, i + 1, rfl, by omega, trivial, tz2, by simp [q1], by simp [hk]; omega, by simp⟩
    · have : i = 16 := by omega
      subst this
      have hnl : decide (((16 : Nat) : Int) < 16) = false := rfl
      rw [List.take_of_length_le (by omega)] at q3
      simp only [c115_l0, q1, q3, q4, hnl, sy, tup, ↓reduceIte, Nat.reduceEqDiff, Nat.reduceAdd, Nat.reduceSub, Nat.reduceMul, Nat.reduceDiv, Nat.reduceMod, Nat.reduceLeDiff, Int.reduceBEq, reduceCtorEq]
      exact ⟨trivial, trivial, tz, by first | trivial | exact q3 | simp⟩
  refine wp_ctx (F := fun r => seqC _ _ _ (blockC _ r)) (hloop _ ?_ ?_ ?_) ?_
  · simp only [sy, tup, ↓reduceIte, Nat.reduceEqDiff, Nat.reduceAdd, Nat.reduceSub, Nat.reduceMul, Nat.reduceDiv, Nat.reduceMod, Nat.reduceLeDiff, Int.reduceBEq, reduceCtorEq]
  · simp only [sy, tup, ↓reduceIte, Nat.reduceEqDiff, Nat.reduceAdd, Nat.reduceSub, Nat.reduceMul, Nat.reduceDiv, Nat.reduceMod, Nat.reduceLeDiff, Int.reduceBEq, reduceCtorEq]
  · simp only [sy, tup, ↓reduceIte, Nat.reduceEqDiff, Nat.reduceAdd, Nat.reduceSub, Nat.reduceMul, Nat.reduceDiv, Nat.reduceMod, Nat.reduceLeDiff, Int.reduceBEq, reduceCtorEq]
  rintro x' ⟨t, HH, d⟩ ⟨rfl, hd, tz, q3⟩
  dsimp only at hd tz q3
  subst hd
  simp only [q3, sy, tup, ↓reduceIte, Nat.reduceEqDiff, Nat.reduceAdd, Nat.reduceSub, Nat.reduceMul, Nat.reduceDiv, Nat.reduceMod, Nat.reduceLeDiff, Int.reduceBEq, reduceCtorEq]
  exact ⟨trivial, .inr trivial, _, rfl, rfl, t1.trans tz⟩

theorem rheals_ok (H : Heap) (lf n : Nat) (hlf : 17 < lf) : ret (callS Tryz.prog S0 lf (n + 4) 116 [ros m s r S c g] H) fun v H' => (∃ z, v = .tuple [.int .i64 z, .bool (heals S)]) ∧ Turns Z H H' := by
  have t1 := Turns.add Z H (.rows false 21 [rcells m s r S c g])
  have hg : (H.add (.rows false 21 [rcells m s r S c g])).get (.run H.next) = some (.rows false 21 [rcells m s r S c g]) := by rw [Heap.get_add, if_pos rfl]
  have og : (H.add (.rows false 21 [rcells m s r S c g])).Old (.run H.next) := by show _ < _; simp
  have hr : ∀ {H' : Heap}, Turns Z (H.add (.rows false 21 [rcells m s r S c g])) H' → RosAt H' (.run H.next) m s r S c g := fun t => ⟨(t.same _ og (fun h => h)).trans hg, hS⟩
  have hw := r_width hS m s r c g
  generalize hH1 : H.add (.rows false 21 [rcells m s r S c g]) = H1 at *
  refine ret_call rfl c116_eq ?_
  simp only [c116, ros, hw, hH1, sy, tup, ↓reduceIte, Nat.reduceEqDiff, Nat.reduceAdd, Nat.reduceSub, Nat.reduceMul, Nat.reduceDiv, Nat.reduceMod, Nat.reduceLeDiff, Int.reduceBEq, reduceCtorEq]
  have hloop : ∀ t : T, t.getP (Tr.path 1) = some (.ptr (some ⟨.run H.next, 0⟩)) → t.getP (Tr.path 4) = some (.int .i64 0) →
      wp (loopF (runC (callS Tryz.prog S0 lf (n + 3)) lf c116_l0) lf ⟨t, H1, []⟩) fun x' s' => s'.d = [] ∧ Turns Z H1 s'.H ∧ ((x' = .ex 0 ∧ heals S = false) ∨ (x' = .ret ∧ heals S = true ∧ (∃ z, s'.t.getP (Tr.path 2) = some (.int .i64 z)) ∧ s'.t.getP (Tr.path 3) = some (.bool true))) := by
    intro t q1 q4
    refine wp_loopF (fun j s' => ∃ i : Nat, j = 16 - i ∧ i ≤ 16 ∧ s'.d = [] ∧ Turns Z H1 s'.H ∧ cnt (S.take i) 2 = 0 ∧ s'.t.getP (Tr.path 1) = some (.ptr (some ⟨.run H.next, 0⟩)) ∧ s'.t.getP (Tr.path 4) = some (.int .i64 (i : Int))) ?_ lf 16 _ ⟨0, rfl, by omega, rfl, Turns.refl _ _, rfl, q1, q4⟩ (by omega)
    rintro j ⟨t, HH, d⟩ ⟨i, rfl, hi, hd, tz, hz0, q1, q4⟩
    dsimp only at hd tz q1 q4
    subst hd
    by_cases hlt : i < 16
    · have hlt' : (i : Int) < 16 := by omega
      have hle' : i + 1 ≤ 16 := hlt
      have hiS : i < S.length := by omega
      have aH := ros_all (hr tz)
      obtain ⟨v, H2, e2, ⟨z, rfl, hz⟩, t2⟩ := rosmay_ok HH (m := m) (s := s) (r := r) (c := c) (g := g) hS lf n hlf
      obtain rfl : z = true := hz.2 hf
      unfold ros at e2
      have tz2 := tz.trans t2
      have lx := ros_st (hr tz2) hlt
      have hk := cnt_take (x := 2) hiS
      have w1 : IntKind.i64.wrap ((i : Int) + 1) = ((i + 1 : Nat) : Int) := by rw [wrap_i64 (by omega)]; omega
      by_cases e : S[i] = 2
      · have hb : (((S[i] : Nat) : Int) == 2) = true := by simp [e]
        have hh : heals S = true := by
          unfold heals cnt
          refine decide_eq_true (List.length_pos_iff.mpr (fun he => ?_))
          have := List.filter_eq_nil_iff.1 he S[i] (List.getElem_mem hiS)
          simp [e] at this
        simp only [c116_l0, q1, q4, hlt', hle', aH, e2, lx, hb, sy, tup, ↓reduceIte, Nat.reduceEqDiff, Nat.reduceAdd, Nat.reduceSub, Nat.reduceMul, Nat.reduceDiv, Nat.reduceMod, Nat.reduceLeDiff, Int.reduceBEq, reduceCtorEq]
        exact ⟨trivial, tz2, .inr ⟨trivial, hh, ⟨_, rfl⟩, trivial⟩⟩
      · have hb : (((S[i] : Nat) : Int) == 2) = false := by simp; omega
        rw [if_neg e, Nat.add_zero, hz0] at hk
        simp only [c116_l0, q1, q4, hlt', hle', aH, e2, lx, hb, w1, sy, tup, ↓reduceIte, Nat.reduceEqDiff, Nat.reduceAdd, Nat.reduceSub, Nat.reduceMul, Nat.reduceDiv, Nat.reduceMod, Nat.reduceLeDiff, Int.reduceBEq, reduceCtorEq]
        exact ⟨16 - (i + 1), by omega, i + 1, rfl, by omega, trivial, tz2, hk, by simp [q1], by simp⟩
    · have : i = 16 := by omega
      subst this
      have hnl : decide (((16 : Nat) : Int) < 16) = false := rfl
      rw [List.take_of_length_le (by omega)] at hz0
      simp only [c116_l0, q1, q4, hnl, sy, tup, ↓reduceIte, Nat.reduceEqDiff, Nat.reduceAdd, Nat.reduceSub, Nat.reduceMul, Nat.reduceDiv, Nat.reduceMod, Nat.reduceLeDiff, Int.reduceBEq, reduceCtorEq]
      exact ⟨trivial, tz, .inl ⟨trivial, by unfold heals; rw [hz0]; rfl⟩⟩
  refine wp_ctx (F := fun r => seqC _ _ _ (blockC _ r)) (hloop _ ?_ ?_) ?_
  · simp only [sy, tup, ↓reduceIte, Nat.reduceEqDiff, Nat.reduceAdd, Nat.reduceSub, Nat.reduceMul, Nat.reduceDiv, Nat.reduceMod, Nat.reduceLeDiff, Int.reduceBEq, reduceCtorEq]
  · simp only [sy, tup, ↓reduceIte, Nat.reduceEqDiff, Nat.reduceAdd, Nat.reduceSub, Nat.reduceMul, Nat.reduceDiv, Nat.reduceMod, Nat.reduceLeDiff, Int.reduceBEq, reduceCtorEq]
  rintro x' ⟨t, HH, d⟩ ⟨hd, tz, ⟨rfl, hh⟩ | ⟨rfl, hh, ⟨z, q2⟩, q3⟩⟩
  · dsimp only at hd tz
    subst hd
    simp only [sy, tup, ↓reduceIte, Nat.reduceEqDiff, Nat.reduceAdd, Nat.reduceSub, Nat.reduceMul, Nat.reduceDiv, Nat.reduceMod, Nat.reduceLeDiff, Int.reduceBEq, reduceCtorEq]
    exact ⟨trivial, .inr trivial, _, rfl, ⟨0, by rw [hh]⟩, t1.trans tz⟩
  · dsimp only at hd tz q2 q3
    subst hd
    simp only [q2, q3, sy, tup, ↓reduceIte, Nat.reduceEqDiff, Nat.reduceAdd, Nat.reduceSub, Nat.reduceMul, Nat.reduceDiv, Nat.reduceMod, Nat.reduceLeDiff, Int.reduceBEq, reduceCtorEq]
    exact ⟨trivial, .inr trivial, _, rfl, ⟨z, by rw [hh]⟩, t1.trans tz⟩

theorem rstate_ok (H : Heap) (lf n : Nat) (hlf : 17 < lf) : ret (callS Tryz.prog S0 lf (n + 5) 72 [ros m s r S c g] H) fun v H' => v = .int .i64 (stateOf S g) ∧ Turns Z H H' := by
  have t1 := Turns.add Z H (.rows false 21 [rcells m s r S c g])
  have hg : (H.add (.rows false 21 [rcells m s r S c g])).get (.run H.next) = some (.rows false 21 [rcells m s r S c g]) := by rw [Heap.get_add, if_pos rfl]
  have og : (H.add (.rows false 21 [rcells m s r S c g])).Old (.run H.next) := by show _ < _; simp
  have hr : ∀ {H' : Heap}, Turns Z (H.add (.rows false 21 [rcells m s r S c g])) H' → RosAt H' (.run H.next) m s r S c g := fun t => ⟨(t.same _ og (fun h => h)).trans hg, hS⟩
  have hw := r_width hS m s r c g
  generalize hH1 : H.add (.rows false 21 [rcells m s r S c g]) = H1 at *
  have a1 := ros_all (hr (Turns.refl Z H1))
  obtain ⟨v, H2, e2, ⟨z, rfl, hz⟩, t2⟩ := rosmay_ok H1 (m := m) (s := s) (r := r) (c := c) (g := g) hS lf (n + 1) hlf
  obtain rfl : z = true := hz.2 hf
  unfold ros at e2
  have a2 := ros_all (hr t2)
  obtain ⟨v, H3, e3, rfl, t3⟩ := rmissing_ok hS hf (g := g) H2 lf n hlf
  unfold ros at e3
  have a3 := ros_all (hr (t2.trans t3))
  obtain ⟨v, H4, e4, ⟨z2, rfl⟩, t4⟩ := rheals_ok hS hf (g := g) H3 lf n hlf
  unfold ros at e4
  have lg := ros_g (hr ((t2.trans t3).trans t4))
  have tt := ((t1.trans t2).trans t3).trans t4
  have hn := cnt_le S 0
  refine ret_call rfl c72_eq ?_
  unfold stateOf
  generalize heals S = hh at *
  by_cases h1 : cnt S 0 < 15
  · have h1' : (2 : Int) ≤ 16 - (cnt S 0 : Int) := by omega
    simp only [c72, ros, hw, hH1, a1, a2, a3, e2, e3, e4, h1', sy, tup, ↓reduceIte, Nat.reduceEqDiff, Nat.reduceAdd, Nat.reduceSub, Nat.reduceMul, Nat.reduceDiv, Nat.reduceMod, Nat.reduceLeDiff, Int.reduceBEq, reduceCtorEq]
    exact ⟨trivial, .inr trivial, _, rfl, by simp [h1], tt⟩
  · have h1' : ¬ (2 : Int) ≤ 16 - (cnt S 0 : Int) := by omega
    by_cases h15 : cnt S 0 = 15
    · have hb : ((16 - (cnt S 0 : Int)) == 1) = true := by rw [h15]; rfl
      cases g <;> cases hh <;> (simp only [c72, ros, hw, hH1, a1, a2, a3, e2, e3, e4, h1', hb, lg, sy, tup, ↓reduceIte, Nat.reduceEqDiff, Nat.reduceAdd, Nat.reduceSub, Nat.reduceMul, Nat.reduceDiv, Nat.reduceMod, Nat.reduceLeDiff, Int.reduceBEq, reduceCtorEq]; exact ⟨trivial, .inr trivial, _, rfl, by simp [h15], tt⟩)
    · have hb : ((16 - (cnt S 0 : Int)) == 1) = false := by simp; omega
      cases g <;> cases hh <;> (simp only [c72, ros, hw, hH1, a1, a2, a3, e2, e3, e4, h1', hb, lg, sy, tup, ↓reduceIte, Nat.reduceEqDiff, Nat.reduceAdd, Nat.reduceSub, Nat.reduceMul, Nat.reduceDiv, Nat.reduceMod, Nat.reduceLeDiff, Int.reduceBEq, reduceCtorEq]; exact ⟨trivial, .inr trivial, _, rfl, by simp [h1, h15], tt⟩)
end

end Go.Proofs.YtpmdbbdidafehaaGreat.draft


/-
  A hull and the document's: are they alike.
-/
set_option linter.unusedVariables false
set_option linter.unusedSimpArgs false
set_option maxRecDepth 10000
namespace Go.Proofs.YtpmdbbdidafehaaGreat.draft
open Go.Am

noncomputable def c29_l0 : C := .seq (.seq (.reg [
 mv 78 8,
 mv 79 2,
 qo 80 (.p (nilcF (tt 79))) [pp 79],
 qo 81 (.p (faddrF (tt 80) 0)) [pp 80],
 qo 82 (.r (loadF (tt 81) 1 .sc)) [pp 81],
 mv 83 7,
 qo 84 (.c (callF (ff 81) [(tt 82), (tt 83)])) [pp 82, pp 83],
 qo 85 (.p (arF .lss (tt 78) (tt 84))) [pp 78, pp 84],
 mv 86 85,
 mg 87 8 86 true,
 qg 88 (.p (arF .lss (tt 87) (ii 12))) 86 true [pp 87],
 qo 89 (.p (pickF (tt 86) (tt 88) (.c (.bool false)))) [pp 86, pp 88]]) (
 .cond (tt 89) (.skip) (.exit 2))) (
 .seq (.block 3 (.seq (.reg [
 mv 93 1,
 mv 94 7,
 mv 95 8,
 qo 96 (.c (callF (ff 37) [(tt 93), (tt 94), (tt 95)])) [pp 93, pp 94, pp 95],
 mv 92 96,
 qo 97 (.p (extF (tt 92) 0)) [pp 92],
 qo 98 (.p (extF (tt 92) 1)) [pp 92],
 qo 9 (.m (allocF 64 [.blk 0])) [],
 qn (.a (storeF (tt 9) (tt 97) 64)) [pp 9, pp 97],
 mv 10 98]) (
 .seq (.reg [
 mv 100 2,
 qo 101 (.p (nilcF (tt 100))) [pp 100],
 qo 102 (.p (faddrF (tt 101) 0)) [pp 101],
 qo 103 (.r (loadF (tt 102) 1 .sc)) [pp 102],
 mv 104 7,
 mv 105 8,
 qo 106 (.c (callF (ff 84) [(tt 103), (tt 104), (tt 105)])) [pp 103, pp 104, pp 105],
 mv 99 106,
 qo 107 (.p (extF (tt 99) 0)) [pp 99],
 qo 108 (.p (extF (tt 99) 1)) [pp 99],
 qo 11 (.m (allocF 64 [.blk 0])) [],
 qn (.a (storeF (tt 11) (tt 107) 64)) [pp 11, pp 107],
 mv 12 108]) (
 .seq (.reg [
 qo 109 (.r (loadF (tt 9) 64 .bk)) [pp 9],
 qo 110 (.r (loadF (tt 11) 64 .bk)) [pp 11],
 qo 111 (.p (eqcF true true [.blk] (tt 109) (tt 110))) [pp 109, pp 110],
 mv 112 111,
 mg 113 10 112 false,
 mg 114 12 112 false,
 qg 115 (.p (eqcF true false [.int .i64] (tt 113) (tt 114))) 112 false [pp 113, pp 114],
 qo 116 (.p (pickF (tt 112) (.c (.bool true)) (tt 115))) [pp 112, pp 115]]) (
 .cond (tt 116) (.seq (.reg [
 qo 6 (.p (S.get (.c (.bool false)))) []]) (
 .ret)) (.skip)))))) (
 .reg [
 mv 90 8,
 qo 91 (.p (arF .add (tt 90) (ii 1))) [pp 90],
 mv 8 91]))
noncomputable def c29_l1 : C := .seq (.seq (.reg [
 mv 69 7,
 mv 70 2,
 qo 71 (.p (nilcF (tt 70))) [pp 70],
 qo 72 (.p (faddrF (tt 71) 0)) [pp 71],
 qo 73 (.r (loadF (tt 72) 1 .sc)) [pp 72],
 qo 74 (.c (callF (ff 17) [(tt 73)])) [pp 73],
 qo 75 (.p (arF .lss (tt 69) (tt 74))) [pp 69, pp 74]]) (
 .cond (tt 75) (.skip) (.exit 0))) (
 .seq (.block 1 (.seq (.reg [
 qo 8 (.p (S.get (ii 0))) []]) (
 .block 2 (.loop c29_l0)))) (
 .reg [
 mv 76 7,
 qo 77 (.p (arF .add (tt 76) (ii 1))) [pp 76],
 mv 7 77]))
/-- ashlar/ashlarlaw18.alike -/
noncomputable def c29 : CFn := ⟨[.tmp (pp 6)],
 .seq (.reg [
 qo 6 (.p (S.get (.c (.bool false)))) []]) (
 .seq (.seq (.regD [
 mv 13 0,
 qo 14 (.c (callF (ff 35) [(tt 13)])) [pp 13],
 mv 15 2,
 qo 16 (.p (nilcF (tt 15))) [pp 15],
 qo 17 (.p (faddrF (tt 16) 2)) [pp 16],
 qo 18 (.r (loadF (tt 17) 1 .sc)) [pp 17],
 qo 19 (.p (eqcF true false [.int .u64] (tt 14) (tt 18))) [pp 14, pp 18],
 mv 20 19,
 mg 21 0 20 false,
 qg 22 (.c (callF (ff 36) [(tt 21)])) 20 false [pp 21],
 mg 23 2 20 false,
 qg 24 (.p (nilcF (tt 23))) 20 false [pp 23],
 qg 25 (.p (faddrF (tt 24) 3)) 20 false [pp 24],
 qg 26 (.r (loadF (tt 25) 21 .ag)) 20 false [pp 25],
 qg 27 (.c (callF (ff 39) [(tt 22), (tt 26)])) 20 false [pp 22, pp 26],
 qg 28 (.p (unF .not (tt 27))) 20 false [pp 27],
 qo 29 (.p (pickF (tt 20) (.c (.bool true)) (tt 28))) [pp 20, pp 28],
 mv 30 29,
 mg 31 0 30 false,
 qg 32 (.c (callF (ff 82) [(tt 31)])) 30 false [pp 31],
 mg 33 2 30 false,
 qg 34 (.p (nilcF (tt 33))) 30 false [pp 33],
 qg 35 (.p (faddrF (tt 34) 1)) 30 false [pp 34],
 qg 36 (.r (loadF (tt 35) 1 .sc)) 30 false [pp 35],
 qg 37 (.p (eqcF true false [.int .u64] (tt 32) (tt 36))) 30 false [pp 32, pp 36],
 qo 38 (.p (pickF (tt 30) (.c (.bool true)) (tt 37))) [pp 30, pp 37],
 mv 39 38,
 mg 40 0 39 false,
 qg 41 (.c (callF (ff 79) [(tt 40)])) 39 false [pp 40],
 mg 42 2 39 false,
 qg 43 (.p (nilcF (tt 42))) 39 false [pp 42],
 qg 44 (.p (faddrF (tt 43) 3)) 39 false [pp 43],
 qg 45 (.r (loadF (tt 44) 21 .ag)) 39 false [pp 44],
 qg 46 (.c (callF (ff 72) [(tt 45)])) 39 false [pp 45],
 qg 47 (.p (eqcF true false [.int .i64] (tt 41) (tt 46))) 39 false [pp 41, pp 46],
 qo 48 (.p (pickF (tt 39) (.c (.bool true)) (tt 47))) [pp 39, pp 47],
 mv 49 48,
 mg 50 1 49 false,
 qg 51 (.c (callF (ff 64) [(tt 50)])) 49 false [pp 50],
 mg 52 2 49 false,
 qg 53 (.p (nilcF (tt 52))) 49 false [pp 52],
 qg 54 (.p (faddrF (tt 53) 0)) 49 false [pp 53],
 qg 55 (.r (loadF (tt 54) 1 .sc)) 49 false [pp 54],
 qg 56 (.c (callF (ff 67) [(tt 55)])) 49 false [pp 55],
 qg 57 (.p (eqcF true false [.bool] (tt 51) (tt 56))) 49 false [pp 51, pp 56],
 qo 58 (.p (pickF (tt 49) (.c (.bool true)) (tt 57))) [pp 49, pp 57],
 mv 59 58,
 mg 60 1 59 false,
 qg 61 (.c (callF (ff 30) [(tt 60)])) 59 false [pp 60],
 mg 62 2 59 false,
 qg 63 (.p (nilcF (tt 62))) 59 false [pp 62],
 qg 64 (.p (faddrF (tt 63) 0)) 59 false [pp 63],
 qg 65 (.r (loadF (tt 64) 1 .sc)) 59 false [pp 64],
 qg 66 (.c (callF (ff 83) [(tt 65)])) 59 false [pp 65],
 qg 67 (.p (eqcF true false [.int .i64] (tt 61) (tt 66))) 59 false [pp 61, pp 66],
 qo 68 (.p (pickF (tt 59) (.c (.bool true)) (tt 67))) [pp 59, pp 67]] [0, 1, 0, 4, 12, 28, 63, 127, 255, 511, 255, 1279, 3327, 7423, 16383, 32767, 65535, 131071, 262143, 524287, 262143, 1310719, 3407871, 7602175, 16777215, 33554431, 67108863, 134217727, 268435455, 134217727, 671088639, 1744830463, 3892314111, 8589934591, 17179869183, 34359738367, 68719476735, 137438953471, 274877906943, 137438953471, 687194767359, 1786706395135, 3985729650687, 8796093022207, 17592186044415, 35184372088831, 70368744177663, 140737488355327, 281474976710655, 140737488355327, 703687441776639, 1829587348619263, 4081387162304511, 9007199254740991, 18014398509481983, 36028797018963967]) (
 .cond (tt 68) (.seq (.reg [
 qo 6 (.p (S.get (.c (.bool false)))) []]) (
 .ret)) (.skip))) (
 .seq (.seq (.reg [
 qo 7 (.p (S.get (ii 0))) []]) (
 .block 0 (.loop c29_l1))) (
 .seq (.reg [
 qo 6 (.p (S.get (.c (.bool true)))) []]) (
 .ret))))⟩
theorem c29_eq : fnOf Tryz.prog 29 = some c29 := by kernel_rfl


theorem halike {H : Heap} {b ds c es : Bk} {l k : List disk.Dv} {B : disk.Bn} (hR : disk.Rep false H b ds 1 l B) (hQ : disk.Rep true H c es 1 k B) (hne : l ≠ []) (hg : ∀ D ∈ B.l, disk.Good D) (h17 : B.l.length ≤ 17) {x y : Bk} {id ev m s r cc : Int} {S : List Nat} {g : Bool} (hx : HullAt H x b id ev m s r S cc g) (hy : HullAt H y c id ev m s r S cc g) (hf : fine m s r S cc) {lf : Nat} (hlf : 1000 < lf) (n : Nat) :
    ret (callS Tryz.prog S0 lf (n + 7) 29 [.ptr (some ⟨x, 0⟩), .ptr (some ⟨b, 0⟩), .ptr (some ⟨y, 0⟩)] H) fun v H' => v = .bool true ∧ Turns Z H H' := by
  have hS := hx.len
  have yy : ∀ {H' : Heap}, Turns Z H H' → HullAt H' y c id ev m s r S cc g := fun t => hy.turns t
  have e35 := hevent hx lf (n + 4)
  obtain ⟨v, H2, e36, rfl, t2⟩ := hroster hx lf (n + 4)
  obtain ⟨v, H3, e39, rfl, t23⟩ := rosters_ok H2 (m := m) (s := s) (r := r) (c := cc) (g := g) hS lf (n + 4) (by omega)
  have t3 := t2.trans t23
  have e82 := hid (hx.turns t3) lf (n + 4)
  obtain ⟨v, H4, e79, rfl, t34⟩ := hstate (hx.turns t3) hf lf n (by omega)
  have t4 := t3.trans t34
  obtain ⟨v, H5, e72, rfl, t45⟩ := rstate_ok hS hf (g := g) H4 lf (n + 1) (by omega)
  have t5 := t4.trans t45
  unfold ros at e36 e39 e72
  have e64 : callS Tryz.prog S0 lf (n + 6) 64 [.ptr (some ⟨b, 0⟩)] H5 = _ := disk.bdark (hR.turns t5).at' hne lf (n + 4)
  have e67 : callS Tryz.prog S0 lf (n + 6) 67 [.ptr (some ⟨c, 0⟩)] H5 = _ := disk.rdark (hQ.turns t5) lf (n + 5)
  have e30 : callS Tryz.prog S0 lf (n + 6) 30 [.ptr (some ⟨b, 0⟩)] H5 = _ := disk.bsteps (hR.turns t5).at' hne lf (n + 4)
  have e83 : callS Tryz.prog S0 lf (n + 6) 83 [.ptr (some ⟨c, 0⟩)] H5 = _ := disk.rsteps (hQ.turns t5) lf (n + 5)
  obtain ⟨q, hqd⟩ : ∃ q : List (Option V × Option V), q = [(loadF (.t (Tr.path 17)) 1 .sc (Tr.setP (Tr.path 17) (.ptr (some ⟨y, 2⟩)) .e) H, some (.int .u64 ev)), (loadF (.t (Tr.path 17)) 1 .sc (Tr.setP (Tr.path 17) (.ptr (some ⟨y, 2⟩)) .e) H, some (.int .u64 ev)), (loadF (.t (Tr.path 25)) 21 .ag (Tr.setP (Tr.path 25) (.ptr (some ⟨y, 3⟩)) .e) H, some (.agg (rcells m s r S cc g))), (loadF (.t (Tr.path 25)) 21 .ag (Tr.setP (Tr.path 25) (.ptr (some ⟨y, 3⟩)) .e) H2, some (.agg (rcells m s r S cc g))), (loadF (.t (Tr.path 35)) 1 .sc (Tr.setP (Tr.path 35) (.ptr (some ⟨y, 1⟩)) .e) H3, some (.int .u64 id)), (loadF (.t (Tr.path 35)) 1 .sc (Tr.setP (Tr.path 35) (.ptr (some ⟨y, 1⟩)) .e) H3, some (.int .u64 id)), (loadF (.t (Tr.path 44)) 21 .ag (Tr.setP (Tr.path 44) (.ptr (some ⟨y, 3⟩)) .e) H3, some (.agg (rcells m s r S cc g))), (loadF (.t (Tr.path 44)) 21 .ag (Tr.setP (Tr.path 44) (.ptr (some ⟨y, 3⟩)) .e) H4, some (.agg (rcells m s r S cc g))), (loadF (.t (Tr.path 54)) 1 .sc (Tr.setP (Tr.path 54) (.ptr (some ⟨y, 0⟩)) .e) H5, some (.ptr (some ⟨c, 0⟩))), (loadF (.t (Tr.path 54)) 1 .sc (Tr.setP (Tr.path 54) (.ptr (some ⟨y, 0⟩)) .e) H5, some (.ptr (some ⟨c, 0⟩))), (loadF (.t (Tr.path 64)) 1 .sc (Tr.setP (Tr.path 64) (.ptr (some ⟨y, 0⟩)) .e) H5, some (.ptr (some ⟨c, 0⟩))), (loadF (.t (Tr.path 64)) 1 .sc (Tr.setP (Tr.path 64) (.ptr (some ⟨y, 0⟩)) .e) H5, some (.ptr (some ⟨c, 0⟩)))] := ⟨_, rfl⟩
  have hq : ∀ p ∈ q, p.1 = p.2 := by
    rw [hqd]
    intro p hp
    simp only [List.mem_cons, List.not_mem_nil, or_false] at hp
    rcases hp with rfl | rfl | rfl | rfl | rfl | rfl | rfl | rfl | rfl | rfl | rfl | rfl
    · simp only [hl_ev (yy (Turns.refl Z H)), sy, tup, ↓reduceIte, Nat.reduceEqDiff, Nat.reduceAdd, Nat.reduceSub, Nat.reduceMul, Nat.reduceDiv, Nat.reduceMod, Nat.reduceLeDiff, Int.reduceBEq, reduceCtorEq]
    · simp only [hl_ev (yy (Turns.refl Z H)), sy, tup, ↓reduceIte, Nat.reduceEqDiff, Nat.reduceAdd, Nat.reduceSub, Nat.reduceMul, Nat.reduceDiv, Nat.reduceMod, Nat.reduceLeDiff, Int.reduceBEq, reduceCtorEq]
    · simp only [hl_r (yy (Turns.refl Z H)), sy, tup, ↓reduceIte, Nat.reduceEqDiff, Nat.reduceAdd, Nat.reduceSub, Nat.reduceMul, Nat.reduceDiv, Nat.reduceMod, Nat.reduceLeDiff, Int.reduceBEq, reduceCtorEq]
    · simp only [hl_r (yy t2), sy, tup, ↓reduceIte, Nat.reduceEqDiff, Nat.reduceAdd, Nat.reduceSub, Nat.reduceMul, Nat.reduceDiv, Nat.reduceMod, Nat.reduceLeDiff, Int.reduceBEq, reduceCtorEq]
    · simp only [hl_id (yy t3), sy, tup, ↓reduceIte, Nat.reduceEqDiff, Nat.reduceAdd, Nat.reduceSub, Nat.reduceMul, Nat.reduceDiv, Nat.reduceMod, Nat.reduceLeDiff, Int.reduceBEq, reduceCtorEq]
    · simp only [hl_id (yy t3), sy, tup, ↓reduceIte, Nat.reduceEqDiff, Nat.reduceAdd, Nat.reduceSub, Nat.reduceMul, Nat.reduceDiv, Nat.reduceMod, Nat.reduceLeDiff, Int.reduceBEq, reduceCtorEq]
    · simp only [hl_r (yy t3), sy, tup, ↓reduceIte, Nat.reduceEqDiff, Nat.reduceAdd, Nat.reduceSub, Nat.reduceMul, Nat.reduceDiv, Nat.reduceMod, Nat.reduceLeDiff, Int.reduceBEq, reduceCtorEq]
    · simp only [hl_r (yy t4), sy, tup, ↓reduceIte, Nat.reduceEqDiff, Nat.reduceAdd, Nat.reduceSub, Nat.reduceMul, Nat.reduceDiv, Nat.reduceMod, Nat.reduceLeDiff, Int.reduceBEq, reduceCtorEq]
    · simp only [hl_b (yy t5), sy, tup, ↓reduceIte, Nat.reduceEqDiff, Nat.reduceAdd, Nat.reduceSub, Nat.reduceMul, Nat.reduceDiv, Nat.reduceMod, Nat.reduceLeDiff, Int.reduceBEq, reduceCtorEq]
    · simp only [hl_b (yy t5), sy, tup, ↓reduceIte, Nat.reduceEqDiff, Nat.reduceAdd, Nat.reduceSub, Nat.reduceMul, Nat.reduceDiv, Nat.reduceMod, Nat.reduceLeDiff, Int.reduceBEq, reduceCtorEq]
    · simp only [hl_b (yy t5), sy, tup, ↓reduceIte, Nat.reduceEqDiff, Nat.reduceAdd, Nat.reduceSub, Nat.reduceMul, Nat.reduceDiv, Nat.reduceMod, Nat.reduceLeDiff, Int.reduceBEq, reduceCtorEq]
    · simp only [hl_b (yy t5), sy, tup, ↓reduceIte, Nat.reduceEqDiff, Nat.reduceAdd, Nat.reduceSub, Nat.reduceMul, Nat.reduceDiv, Nat.reduceMod, Nat.reduceLeDiff, Int.reduceBEq, reduceCtorEq]
  have t6 : Turns Z H (H5.owe q) := t5.owe hq
  refine ret_call rfl c29_eq ?_
  have l1 := hl_ev hy
  have l2 := hl_r (yy t2)
  have l3 := hl_id (yy t3)
  have l4 := hl_r (yy t4)
  have l5 := hl_b (yy t5)
  generalize B.dk = dk at e64 e67
  generalize B.st = st at e30 e83
  generalize stateOf S g = so at e79 e72
  simp only [c29, e35, l1, e36, l2, e39, e82, l3, e79, l4, e72, e64, l5, e67, e30, e83, sy, tup, ↓reduceIte, Nat.reduceEqDiff, Nat.reduceAdd, Nat.reduceSub, Nat.reduceMul, Nat.reduceDiv, Nat.reduceMod, Nat.reduceLeDiff, Int.reduceBEq, reduceCtorEq]
  rw [endD_q (q := q) (by kernel_rfl) (by rw [hqd]; kernel_rfl)]
  simp only [sy, tup, ↓reduceIte, Nat.reduceEqDiff, Nat.reduceAdd, Nat.reduceSub, Nat.reduceMul, Nat.reduceDiv, Nat.reduceMod, Nat.reduceLeDiff, Int.reduceBEq, reduceCtorEq]
  have hlk : k.length = l.length := by rw [hR.len, hQ.len]
  have hl17 : l.length ≤ 17 := by rw [hR.len]; exact h17
  have hsn : ∀ d : Int, ∃ n : Nat, B.sectors d = (n : Int) := fun d => by
    unfold disk.Bn.sectors
    split
    · exact ⟨_, rfl⟩
    · exact ⟨0, rfl⟩
  have hinner : ∀ (d : Int) (t : T) (H1 : Heap), Turns Z H H1 → t.getP (Tr.path 1) = some (.ptr (some ⟨b, 0⟩)) → t.getP (Tr.path 2) = some (.ptr (some ⟨y, 0⟩)) → t.getP (Tr.path 7) = some (.int .i64 d) → t.getP (Tr.path 8) = some (.int .i64 0) →
      wp (loopF (runC (callS Tryz.prog S0 lf (n + 6)) lf c29_l0) lf ⟨t, H1, []⟩) fun x' s' => x' = .ex 2 ∧ s'.d = [] ∧ Turns Z H s'.H ∧ s'.t.getP (Tr.path 1) = some (.ptr (some ⟨b, 0⟩)) ∧ s'.t.getP (Tr.path 2) = some (.ptr (some ⟨y, 0⟩)) ∧ s'.t.getP (Tr.path 7) = some (.int .i64 d) := by
    intro d t H1 hT q1 q2 q7 q8
    obtain ⟨ns, hns⟩ := hsn d
    refine wp_loopF (fun j s' => ∃ i : Nat, j = 12 - i ∧ i ≤ 12 ∧ s'.d = [] ∧ Turns Z H s'.H ∧ s'.t.getP (Tr.path 1) = some (.ptr (some ⟨b, 0⟩)) ∧ s'.t.getP (Tr.path 2) = some (.ptr (some ⟨y, 0⟩)) ∧ s'.t.getP (Tr.path 7) = some (.int .i64 d) ∧ s'.t.getP (Tr.path 8) = some (.int .i64 (i : Int))) ?_ lf 12 _ ⟨0, rfl, by omega, rfl, hT, q1, q2, q7, q8⟩ (by omega)
    rintro j ⟨t, HH, dd⟩ ⟨i, rfl, hi, hdd, tz, q1, q2, q7, q8⟩
    dsimp only at hdd tz q1 q2 q7 q8
    subst hdd
    have lb := hl_b (yy tz)
    have e81 : callS Tryz.prog S0 lf (n + 6) 81 [.ptr (some ⟨c, 0⟩), .int .i64 d] HH = _ := disk.rsectors (hQ.turns tz) d lf (n + 4)
    rw [hns] at e81
    by_cases hin : (i : Int) < (ns : Int)
    · by_cases h12 : (i : Int) < 12
      · have w1 : IntKind.i64.wrap ((i : Int) + 1) = ((i + 1 : Nat) : Int) := by rw [wrap_i64 (by omega)]; omega
        obtain ⟨v, K1, e1, rfl, u1⟩ := disk.bsure_all (hR.turns tz) hne hg d (i : Int) lf (n + 2)
        have u1' : Turns Z HH (disk.cellH K1 (B.sure d (i : Int))) := u1.trans (disk.cell_turns K1 (B.sure d (i : Int)))
        have tz1 := tz.trans u1'
        have lb1 := hl_b (yy tz1)
        obtain ⟨v, K2, e2, rfl, u2⟩ := disk.rbsure (hQ.turns tz1) hg d (i : Int) hlf (n + 3)
        change callS Tryz.prog S0 lf (n + 6) 84 _ _ = _ at e2
        have u2' : Turns Z (disk.cellH K1 (B.sure d (i : Int))) (disk.cellH K2 (B.sure d (i : Int))) := u2.trans (disk.cell_turns K2 (B.sure d (i : Int)))
        have tz2 := tz1.trans u2'
        have d1 := disk.load_of ((u2'.same _ (disk.cell_old K1 (B.sure d (i : Int))) (fun h => h)).trans (disk.cell_get K1 (B.sure d (i : Int))))
        have d2 := disk.load_of (disk.cell_get K2 (B.sure d (i : Int)))
        generalize B.sure d (i : Int) = X at e1 e2 d1 d2 tz1 tz2 lb1
        generalize B.uc d (i : Int) = Y at e1 e2
        simp only [c29_l0, q1, q2, q7, q8, lb, e81, hin, h12, e1, lb1, e2, disk.cell_fold, d1, d2, w1, sy, tup, ↓reduceIte, Nat.reduceEqDiff, Nat.reduceAdd, Nat.reduceSub, Nat.reduceMul, Nat.reduceDiv, Nat.reduceMod, Nat.reduceLeDiff, Int.reduceBEq, reduceCtorEq]
        exact ⟨12 - (i + 1), by omega, i + 1, rfl, by omega, trivial, tz2, by simp [q1], by simp [q2], by simp [q7], by simp⟩
      · simp only [c29_l0, q1, q2, q7, q8, lb, e81, hin, h12, sy, tup, ↓reduceIte, Nat.reduceEqDiff, Nat.reduceAdd, Nat.reduceSub, Nat.reduceMul, Nat.reduceDiv, Nat.reduceMod, Nat.reduceLeDiff, Int.reduceBEq, reduceCtorEq]
        exact ⟨trivial, trivial, tz, by first | trivial | exact q1, by first | trivial | exact q2, by first | trivial | exact q7⟩
    · simp only [c29_l0, q1, q2, q7, q8, lb, e81, hin, sy, tup, ↓reduceIte, Nat.reduceEqDiff, Nat.reduceAdd, Nat.reduceSub, Nat.reduceMul, Nat.reduceDiv, Nat.reduceMod, Nat.reduceLeDiff, Int.reduceBEq, reduceCtorEq]
      exact ⟨trivial, trivial, tz, by first | trivial | exact q1, by first | trivial | exact q2, by first | trivial | exact q7⟩
  have houter : ∀ (t : T), t.getP (Tr.path 1) = some (.ptr (some ⟨b, 0⟩)) → t.getP (Tr.path 2) = some (.ptr (some ⟨y, 0⟩)) → t.getP (Tr.path 7) = some (.int .i64 0) →
      wp (loopF (runC (callS Tryz.prog S0 lf (n + 6)) lf c29_l1) lf ⟨t, H5.owe q, []⟩) fun x' s' => x' = .ex 0 ∧ s'.d = [] ∧ Turns Z H s'.H := by
    intro t q1 q2 q7
    refine wp_loopF (fun j s' => ∃ i : Nat, j = l.length - i ∧ i ≤ l.length ∧ s'.d = [] ∧ Turns Z H s'.H ∧ s'.t.getP (Tr.path 1) = some (.ptr (some ⟨b, 0⟩)) ∧ s'.t.getP (Tr.path 2) = some (.ptr (some ⟨y, 0⟩)) ∧ s'.t.getP (Tr.path 7) = some (.int .i64 (i : Int))) ?_ lf l.length _ ⟨0, rfl, by omega, rfl, t6, q1, q2, q7⟩ (by omega)
    rintro j ⟨t, HH, dd⟩ ⟨i, rfl, hi, hdd, tz, q1, q2, q7⟩
    dsimp only at hdd tz q1 q2 q7
    subst hdd
    have lb := hl_b (yy tz)
    have e17 : callS Tryz.prog S0 lf (n + 6) 17 [.ptr (some ⟨c, 0⟩)] HH = _ := disk.rdevices (hQ.turns tz) lf (n + 5)
    rw [hlk] at e17
    by_cases hin : (i : Int) < (l.length : Int)
    · have w1 : IntKind.i64.wrap ((i : Int) + 1) = ((i + 1 : Nat) : Int) := by rw [wrap_i64 (by omega)]; omega
      simp only [c29_l1, q1, q2, q7, lb, e17, hin, sy, tup, ↓reduceIte, Nat.reduceEqDiff, Nat.reduceAdd, Nat.reduceSub, Nat.reduceMul, Nat.reduceDiv, Nat.reduceMod, Nat.reduceLeDiff, Int.reduceBEq, reduceCtorEq]
      refine wp_ctx (F := fun r => seqC _ _ _ (blockC _ (blockC _ r))) (hinner (i : Int) _ HH tz ?_ ?_ ?_ ?_) ?_
      · simp only [q1, sy, tup, ↓reduceIte, Nat.reduceEqDiff, Nat.reduceAdd, Nat.reduceSub, Nat.reduceMul, Nat.reduceDiv, Nat.reduceMod, Nat.reduceLeDiff, Int.reduceBEq, reduceCtorEq]
      · simp only [q2, sy, tup, ↓reduceIte, Nat.reduceEqDiff, Nat.reduceAdd, Nat.reduceSub, Nat.reduceMul, Nat.reduceDiv, Nat.reduceMod, Nat.reduceLeDiff, Int.reduceBEq, reduceCtorEq]
      · simp only [q7, sy, tup, ↓reduceIte, Nat.reduceEqDiff, Nat.reduceAdd, Nat.reduceSub, Nat.reduceMul, Nat.reduceDiv, Nat.reduceMod, Nat.reduceLeDiff, Int.reduceBEq, reduceCtorEq]
      · simp only [sy, tup, ↓reduceIte, Nat.reduceEqDiff, Nat.reduceAdd, Nat.reduceSub, Nat.reduceMul, Nat.reduceDiv, Nat.reduceMod, Nat.reduceLeDiff, Int.reduceBEq, reduceCtorEq]
      rintro x' ⟨t, HJ, dd⟩ ⟨rfl, hdd, tz, q1, q2, q7⟩
      dsimp only at hdd tz q1 q2 q7
      subst hdd
      simp only [q1, q2, q7, w1, sy, tup, ↓reduceIte, Nat.reduceEqDiff, Nat.reduceAdd, Nat.reduceSub, Nat.reduceMul, Nat.reduceDiv, Nat.reduceMod, Nat.reduceLeDiff, Int.reduceBEq, reduceCtorEq]
      exact ⟨l.length - (i + 1), by omega, i + 1, rfl, by omega, trivial, tz, by simp [q1], by simp [q2], by simp⟩
    · simp only [c29_l1, q1, q2, q7, lb, e17, hin, sy, tup, ↓reduceIte, Nat.reduceEqDiff, Nat.reduceAdd, Nat.reduceSub, Nat.reduceMul, Nat.reduceDiv, Nat.reduceMod, Nat.reduceLeDiff, Int.reduceBEq, reduceCtorEq]
      exact ⟨trivial, trivial, tz⟩
  refine wp_ctx (F := fun r => seqC _ _ _ (blockC _ r)) (houter _ ?_ ?_ ?_) ?_
  · simp only [sy, tup, ↓reduceIte, Nat.reduceEqDiff, Nat.reduceAdd, Nat.reduceSub, Nat.reduceMul, Nat.reduceDiv, Nat.reduceMod, Nat.reduceLeDiff, Int.reduceBEq, reduceCtorEq]
  · simp only [sy, tup, ↓reduceIte, Nat.reduceEqDiff, Nat.reduceAdd, Nat.reduceSub, Nat.reduceMul, Nat.reduceDiv, Nat.reduceMod, Nat.reduceLeDiff, Int.reduceBEq, reduceCtorEq]
  · simp only [sy, tup, ↓reduceIte, Nat.reduceEqDiff, Nat.reduceAdd, Nat.reduceSub, Nat.reduceMul, Nat.reduceDiv, Nat.reduceMod, Nat.reduceLeDiff, Int.reduceBEq, reduceCtorEq]
  rintro x' ⟨t, HJ, dd⟩ ⟨rfl, hdd, tz⟩
  dsimp only at hdd tz
  subst hdd
  simp only [sy, tup, ↓reduceIte, Nat.reduceEqDiff, Nat.reduceAdd, Nat.reduceSub, Nat.reduceMul, Nat.reduceDiv, Nat.reduceMod, Nat.reduceLeDiff, Int.reduceBEq, reduceCtorEq]
  exact ⟨trivial, .inr trivial, _, rfl, rfl, tz⟩

end Go.Proofs.YtpmdbbdidafehaaGreat.draft


/-
  'HullNew': its run.
-/
set_option linter.unusedVariables false
set_option linter.unusedSimpArgs false
set_option maxRecDepth 10000
namespace Go.Proofs.YtpmdbbdidafehaaGreat.disk
open Go.Am
theorem bdevices {H : Heap} {b ds : Bk} {so : Nat} {l : List Dv} {B : Bn} (h : BRep H b ds so l B) (hl : l ≠ []) (lf m : Nat) : callS Tryz.prog S0 lf (m + 2) 63 [.ptr (some ⟨b, 0⟩)] H = some (.v (.int .i64 (l.length : Int)), H) := by
  have e1 := bnone h.at' hl lf m
  have l0 := bload0 h.at'
  obtain ⟨v, H', e, rfl, rfl⟩ : ret (callS Tryz.prog S0 lf (m + 2) 63 [.ptr (some ⟨b, 0⟩)] H) fun v H' => v = .int .i64 (l.length : Int) ∧ H' = H := by
    refine ret_call rfl c63_eq ?_
    simp only [c63, e1, l0, sy, tup, ↓reduceIte, Nat.reduceEqDiff, Nat.reduceAdd, Nat.reduceSub, Nat.reduceMul, Nat.reduceDiv, Nat.reduceMod, Nat.reduceLeDiff, Int.reduceBEq, reduceCtorEq]
    exact ⟨trivial, .inr trivial, _, rfl, rfl, trivial⟩
  exact e
end Go.Proofs.YtpmdbbdidafehaaGreat.disk
namespace Go.Proofs.YtpmdbbdidafehaaGreat.draft
open Go.Am

/-- ashlar/ashlarlaw18.HullNew -/
noncomputable def c4 : CFn := ⟨[.tmp (pp 8)],
 .seq (.reg [
 qo 7 (.m (boxF 21 (tt 3))) [pp 3],
 qo 8 (.p (S.get (.c (.bool false)))) []]) (
 .seq (.reg [
 mv 20 0,
 qo 21 (.c (callF (ff 24) [(tt 20)])) [pp 20],
 mv 19 21,
 qo 22 (.p (extF (tt 19) 0)) [pp 19],
 qo 23 (.p (extF (tt 19) 1)) [pp 19],
 mv 9 22,
 mv 10 23]) (
 .seq (.reg [
 mv 25 0,
 qo 26 (.c (callF (ff 25) [(tt 25)])) [pp 25],
 mv 24 26,
 qo 27 (.p (extF (tt 24) 0)) [pp 24],
 qo 28 (.p (extF (tt 24) 1)) [pp 24],
 mv 11 27,
 mv 12 28]) (
 .seq (.seq (.reg [
 mv 29 10,
 mv 30 12,
 qo 31 (.p (eqcF true false [.int .i64] (tt 29) (tt 30))) [pp 29, pp 30],
 mv 32 31,
 mg 33 12 32 false,
 qg 34 (.p (eqcF true false [.int .i64] (tt 33) (ii 0))) 32 false [pp 33],
 qo 35 (.p (pickF (tt 32) (.c (.bool true)) (tt 34))) [pp 32, pp 34]]) (
 .cond (tt 35) (.seq (.reg [
 mv 37 1,
 mv 38 2,
 qo 39 (.r (loadF (tt 7) 21 .ag)) [pp 7],
 qo 40 (.c (callF (ff 26) [(.c (.ptr none)), (tt 37), (tt 38), (tt 39)])) [pp 37, pp 38, pp 39],
 mv 36 40,
 qo 41 (.p (extF (tt 36) 0)) [pp 36],
 qo 42 (.p (extF (tt 36) 1)) [pp 36],
 mv 13 41,
 mv 14 42]) (
 .seq (.reg [
 mv 43 10,
 mv 44 12,
 qo 45 (.p (eqcF false false [.int .i64] (tt 43) (tt 44))) [pp 43, pp 44],
 mv 46 45,
 mg 47 14 46 true,
 qg 48 (.p (eqcF false false [.int .i64] (tt 47) (ii 1))) 46 true [pp 47],
 qo 49 (.p (pickF (tt 46) (tt 48) (.c (.bool false)))) [pp 46, pp 48],
 mv 50 49,
 qg 51 (.c (callF (ff 27) [])) 50 true [],
 qo 52 (.p (pickF (tt 50) (tt 51) (.c (.bool false)))) [pp 50, pp 51],
 mv 8 52]) (
 .ret))) (.skip))) (
 .seq (.reg [
 mv 54 9,
 mv 55 1,
 mv 56 2,
 qo 57 (.r (loadF (tt 7) 21 .ag)) [pp 7],
 qo 58 (.c (callF (ff 26) [(tt 54), (tt 55), (tt 56), (tt 57)])) [pp 54, pp 55, pp 56, pp 57],
 mv 53 58,
 qo 59 (.p (extF (tt 53) 0)) [pp 53],
 qo 60 (.p (extF (tt 53) 1)) [pp 53],
 mv 15 59,
 mv 16 60]) (
 .seq (.reg [
 mv 62 11,
 mv 63 1,
 mv 64 2,
 qo 65 (.r (loadF (tt 7) 21 .ag)) [pp 7],
 qo 66 (.c (callF (ff 28) [(tt 62), (tt 63), (tt 64), (tt 65)])) [pp 62, pp 63, pp 64, pp 65],
 mv 61 66,
 qo 67 (.p (extF (tt 61) 0)) [pp 61],
 qo 68 (.p (extF (tt 61) 1)) [pp 61],
 mv 17 67,
 mv 18 68]) (
 .seq (.seq (.reg [
 mv 69 16,
 mv 70 18,
 qo 71 (.p (eqcF true false [.int .i64] (tt 69) (tt 70))) [pp 69, pp 70],
 mv 72 71,
 mg 73 18 72 false,
 qg 74 (.p (eqcF true false [.int .i64] (tt 73) (ii 0))) 72 false [pp 73],
 qo 75 (.p (pickF (tt 72) (.c (.bool true)) (tt 74))) [pp 72, pp 74]]) (
 .cond (tt 75) (.seq (.reg [
 mv 76 16,
 mv 77 18,
 qo 78 (.p (eqcF false false [.int .i64] (tt 76) (tt 77))) [pp 76, pp 77],
 mv 79 78,
 mg 80 15 79 true,
 qg 81 (.r (eqnF false .ptr (tt 80) (.c (.ptr none)))) 79 true [pp 80],
 qo 82 (.p (pickF (tt 79) (tt 81) (.c (.bool false)))) [pp 79, pp 81],
 mv 83 82,
 qg 84 (.c (callF (ff 27) [])) 83 true [],
 qo 85 (.p (pickF (tt 83) (tt 84) (.c (.bool false)))) [pp 83, pp 84],
 mv 8 85]) (
 .ret)) (.skip))) (
 .seq (.reg [
 mv 86 15,
 mv 87 9,
 mv 88 17,
 qo 89 (.c (callF (ff 29) [(tt 86), (tt 87), (tt 88)])) [pp 86, pp 87, pp 88],
 mv 90 89,
 mg 91 9 90 true,
 qg 92 (.c (callF (ff 30) [(tt 91)])) 90 true [pp 91],
 qg 93 (.p (eqcF false false [.int .i64] (tt 92) (ii 0))) 90 true [pp 92],
 qo 94 (.p (pickF (tt 90) (tt 93) (.c (.bool false)))) [pp 90, pp 93],
 mv 95 94,
 qg 96 (.c (callF (ff 27) [])) 95 true [],
 qo 97 (.p (pickF (tt 95) (tt 96) (.c (.bool false)))) [pp 95, pp 96],
 mv 8 97]) (
 .ret))))))))⟩
theorem c4_eq : fnOf Tryz.prog 4 = some c4 := by kernel_rfl


theorem hlives_ok (lf n : Nat) (H : Heap) : callS Tryz.prog S0 lf (n + 1) 27 [] H = some (.v (.bool true), H) := rfl

theorem dev_nil (lf n : Nat) (H : Heap) : callS Tryz.prog S0 lf (n + 2) 63 [.ptr none] H = some (.v (.int .i64 0), H) := rfl

theorem hnew_nil (H : Heap) {id ev m s r c : Int} {g : Bool} {S : List Nat} (hS : S.length = 16) (lf n : Nat) : ret (callS Tryz.prog S0 lf (n + 3) 26 [.ptr none, .int .u64 id, .int .u64 ev, ros m s r S c g] H) fun v H' => v = .tuple [.ptr none, .int .i64 1] ∧ Turns Z H H' := by
  have t1 := Turns.add Z H (.rows false 21 [rcells m s r S c g])
  have hw := r_width hS m s r c g
  have d := dev_nil lf n (H.add (.rows false 21 [rcells m s r S c g]))
  refine ret_call rfl c26_eq ?_
  simp only [c26, ros, hw, d, sy, tup, ↓reduceIte, Nat.reduceEqDiff, Nat.reduceAdd, Nat.reduceSub, Nat.reduceMul, Nat.reduceDiv, Nat.reduceMod, Nat.reduceLeDiff, Int.reduceBEq, reduceCtorEq]
  exact ⟨trivial, .inr trivial, _, rfl, rfl, t1⟩

theorem hullnew_run (H : Heap) {pp : Option Ptr} {P : List Int} {pc : Nat} (hP : disk.PicksAt H pp P disk.Z) {id ev m s r c : Int} {g : Bool} {S : List Nat} (hS : S.length = 16) {lf : Nat} (hlf : 1000 < lf) (n : Nat) :
    ret (callS Tryz.prog S0 lf (n + 8) 4 [.slice pp P.length pc 0, .int .u64 id, .int .u64 ev, ros m s r S c g] H) fun v H' => v = .bool true ∧ Turns Z H H' := by
  have t1 : Turns Z H _ := Turns.add Z H (.rows false 21 [rcells m s r S c g])
  have hg : (H.add (.rows false 21 [rcells m s r S c g])).get (.run H.next) = some (.rows false 21 [rcells m s r S c g]) := by rw [Heap.get_add, if_pos rfl]
  have og : (H.add (.rows false 21 [rcells m s r S c g])).Old (.run H.next) := by show _ < _; simp
  have hr : ∀ {H' : Heap}, Turns Z (H.add (.rows false 21 [rcells m s r S c g])) H' → RosAt H' (.run H.next) m s r S c g := fun t => ⟨(t.same _ og (fun h => h)).trans hg, hS⟩
  have hw := r_width hS m s r c g
  generalize hH1 : H.add (.rows false 21 [rcells m s r S c g]) = H1 at *
  obtain ⟨v1, H2, e1, t2, hv1⟩ := disk.bnew_all H1 (hP.turns t1) (pc := pc) (po := 0) hlf (n + 5)
  change callS Tryz.prog S0 lf (n + 7) 24 _ _ = _ at e1
  obtain ⟨v2, H3, e2, t3, hv2⟩ := disk.rbnew_all H2 ((hP.turns t1).turns t2) (pc := pc) (po := 0) hlf (n + 5)
  change callS Tryz.prog S0 lf (n + 7) 25 _ _ = _ at e2
  have t23 : Turns Z H1 H3 := Turns.trans (X := Z) t2 t3
  have a3 := ros_all (hr t23)
  have hL : ∀ H, callS Tryz.prog S0 lf (n + 7) 27 [] H = some (.v (.bool true), H) := fun H => hlives_ok lf (n + 6) H
  refine ret_call rfl c4_eq ?_
  rcases hv1 with ⟨hno, rfl⟩ | ⟨hok1, b, ds, l, rfl, hR, _⟩
  · rcases hv2 with ⟨_, rfl⟩ | ⟨hok2, _⟩
    · obtain ⟨v, H4, e4, rfl, t4⟩ := hnew_nil H3 (id := id) (ev := ev) (m := m) (s := s) (r := r) (c := c) (g := g) hS lf (n + 4)
      unfold ros at e4
      simp only [c4, ros, hw, hH1, e1, e2, a3, e4, hL, sy, tup, ↓reduceIte, Nat.reduceEqDiff, Nat.reduceAdd, Nat.reduceSub, Nat.reduceMul, Nat.reduceDiv, Nat.reduceMod, Nat.reduceLeDiff, Int.reduceBEq, reduceCtorEq]
      simp
      exact (t1.trans t23).trans t4
    · exact absurd hok2 hno
  · rcases hv2 with ⟨hno, _⟩ | ⟨_, c', es, k, rfl, hQ, _⟩
    · exact absurd hok1 hno
    have hgood := (disk.okNew hok1).good (by omega)
    have hlen : l.length = P.length := by rw [hR.len]; unfold disk.newB; rw [List.length_map]
    have hlk : k.length = P.length := by rw [hQ.len]; unfold disk.newB; rw [List.length_map]
    have hP1 := hok1.1
    have hP17 := hok1.2.1
    have hne : l ≠ [] := fun e => by rw [e] at hlen; simp at hlen; omega
    have hn0 : P.length ≠ 0 := by omega
    have hR3 := hR.turns t3
    obtain ⟨v, H4, e4, t4, hv4⟩ := hnew_ok H3 (b := b) (id := id) (ev := ev) (m := m) (s := s) (r := r) (c := c) (g := g) hS (n := P.length) (sec := (disk.newB P).sectors) hn0 lf (n + 3) (by omega)
      (fun H' t => by rw [← hlen]; exact disk.bdevices (hR3.turns t) hne lf (n + 4))
      (fun H' d t => disk.bsectors_all (hR3.turns t) hne hgood d lf (n + 3))
    have a4 := ros_all (hr (t23.trans t4))
    have hQ4 := hQ.turns t4
    obtain ⟨v', H5, e5, t5, hv5⟩ := rhnew_ok H4 (b := c') (id := id) (ev := ev) (m := m) (s := s) (r := r) (c := c) (g := g) hS (n := P.length) (sec := (disk.newB P).sectors) lf (n + 3) (by omega)
      (fun H' t => by rw [← hlk]; exact disk.rdevices (hQ4.turns t) lf (n + 5))
      (fun H' d t => disk.rsectors (hQ4.turns t) d lf (n + 4))
    unfold ros at e4 e5
    have tt5 : Turns Z H H5 := ((t1.trans t23).trans t4).trans t5
    rcases hv4 with ⟨hn4, rfl⟩ | ⟨hk4, hb1, rfl, hg4, ho4, hold4⟩
    · rcases hv5 with ⟨_, rfl⟩ | ⟨hk5, _⟩
      · simp only [c4, ros, hw, hH1, e1, e2, a3, e4, a4, e5, hL, sy, tup, ↓reduceIte, Nat.reduceEqDiff, Nat.reduceAdd, Nat.reduceSub, Nat.reduceMul, Nat.reduceDiv, Nat.reduceMod, Nat.reduceLeDiff, Int.reduceBEq, reduceCtorEq]
        simp
        exact tt5
      · exact absurd hk5 hn4
    · rcases hv5 with ⟨hn5, _⟩ | ⟨_, hb2, rfl, hg5, ho5, hold5⟩
      · exact absurd hk4 hn5
      have X1 : HullAt H5 hb1 b id ev m s r S c g := (HullAt.turns ⟨hg4, hS, hold4⟩ t5)
      have X2 : HullAt H5 hb2 c' id ev m s r S c g := ⟨hg5, hS, hold5⟩
      have hl17 : (disk.newB P).l.length ≤ 17 := by unfold disk.newB; rw [List.length_map]; exact hP17
      obtain ⟨v, H6, e6, rfl, t6⟩ := halike ((hR3.turns t4).turns t5) (hQ4.turns t5) hne hgood hl17 X1 X2 hk4.2.2.1 hlf n
      have e7 : callS Tryz.prog S0 lf (n + 7) 30 [.ptr (some ⟨b, 0⟩)] H6 = _ := disk.bsteps (((hR3.turns t4).turns t5).turns t6).at' hne lf (n + 5)
      have hst : (disk.newB P).st = 0 := rfl
      rw [hst] at e7
      simp only [c4, ros, hw, hH1, e1, e2, a3, e4, a4, e5, e6, e7, hL, sy, tup, ↓reduceIte, Nat.reduceEqDiff, Nat.reduceAdd, Nat.reduceSub, Nat.reduceMul, Nat.reduceDiv, Nat.reduceMod, Nat.reduceLeDiff, Int.reduceBEq, reduceCtorEq]
      simp
      exact tt5.trans t6

end Go.Proofs.YtpmdbbdidafehaaGreat.draft

