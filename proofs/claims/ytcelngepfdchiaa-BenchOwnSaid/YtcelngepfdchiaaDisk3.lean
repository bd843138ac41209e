/-
  A device in the machine's heap: how it is made, and filled.
-/
import Derived.Test.YtcelngepfdchiaaDisk2
set_option linter.unusedVariables false
set_option linter.unusedSimpArgs false
set_option maxRecDepth 10000
namespace Go.Proofs.Ytcelngepfdchiaa.disk
open Go.Am

noncomputable def c15_l0 : C := .seq (.seq (.reg [
      ⟨(some (Tr.path 22)), (some (.p (S.get (.t (Tr.path 10))))), none, [Tr.path 10]⟩,
      ⟨(some (Tr.path 23)), (some (.p (S.get (.t (Tr.path 1))))), none, [Tr.path 1]⟩,
      ⟨(some (Tr.path 24)), (some (.p (lenF (.t (Tr.path 23))))), none, [Tr.path 23]⟩,
      ⟨(some (Tr.path 25)), (some (.p (arF .lss (.t (Tr.path 22)) (.t (Tr.path 24))))), none, [Tr.path 22, Tr.path 24]⟩,
      ⟨(some (Tr.path 26)), (some (.p (S.get (.t (Tr.path 25))))), none, [Tr.path 25]⟩,
      ⟨(some (Tr.path 27)), (some (.p (S.get (.t (Tr.path 10))))), (some (some (Tr.path 26), true)), [Tr.path 10]⟩,
      ⟨(some (Tr.path 28)), (some (.p (arF .lss (.t (Tr.path 27)) (.c (.int .i64 40))))), (some (some (Tr.path 26), true)), [Tr.path 27]⟩,
      ⟨(some (Tr.path 29)), (some (.p (pickF (.t (Tr.path 26)) (.t (Tr.path 28)) (.c (.bool false))))), none, [Tr.path 26, Tr.path 28]⟩]) (
     .cond (.t (Tr.path 29)) (.skip) (.exit 0))) (
    .seq (.block 1 (.seq (.regD [
       ⟨(some (Tr.path 32)), (some (.p (S.get (.t (Tr.path 8))))), none, [Tr.path 8]⟩,
       ⟨(some (Tr.path 33)), (some (.p (S.get (.t (Tr.path 1))))), none, [Tr.path 1]⟩,
       ⟨(some (Tr.path 34)), (some (.p (S.get (.t (Tr.path 10))))), none, [Tr.path 10]⟩,
       ⟨(some (Tr.path 35)), (some (.p (iaddrSF (.t (Tr.path 33)) (.t (Tr.path 34)) 65))), none, [Tr.path 33, Tr.path 34]⟩,
       ⟨(some (Tr.path 36)), (some (.p (faddrF (.t (Tr.path 35)) 0))), none, [Tr.path 35]⟩,
       ⟨(some (Tr.path 37)), (some (.r (loadF (.t (Tr.path 36)) 1 .sc))), none, [Tr.path 36]⟩,
       ⟨(some (Tr.path 38)), (some (.p (convF .u64 (.t (Tr.path 37))))), none, [Tr.path 37]⟩,
       ⟨(some (Tr.path 39)), (some (.p (S.get (.t (Tr.path 7))))), none, [Tr.path 7]⟩,
       ⟨(some (Tr.path 40)), (some (.p (convF .u64 (.t (Tr.path 39))))), none, [Tr.path 39]⟩,
       ⟨(some (Tr.path 41)), (some (.p (arF .rem (.t (Tr.path 38)) (.t (Tr.path 40))))), none, [Tr.path 38, Tr.path 40]⟩,
       ⟨(some (Tr.path 42)), (some (.p (convF .i64 (.t (Tr.path 41))))), none, [Tr.path 41]⟩,
       ⟨(some (Tr.path 43)), (some (.p (S.get (.t (Tr.path 1))))), none, [Tr.path 1]⟩,
       ⟨(some (Tr.path 44)), (some (.p (S.get (.t (Tr.path 10))))), none, [Tr.path 10]⟩,
       ⟨(some (Tr.path 45)), (some (.p (iaddrSF (.t (Tr.path 43)) (.t (Tr.path 44)) 65))), none, [Tr.path 43, Tr.path 44]⟩,
       ⟨(some (Tr.path 46)), (some (.p (faddrF (.t (Tr.path 45)) 1))), none, [Tr.path 45]⟩,
       ⟨(some (Tr.path 47)), (some (.r (loadF (.t (Tr.path 46)) 64 .bk))), none, [Tr.path 46]⟩,
       ⟨(some (Tr.path 48)), (some (.c (callF (.c (.func (.func 18) [] [])) [(.t (Tr.path 32)), (.t (Tr.path 42)), (.t (Tr.path 47))]))), none, [Tr.path 32, Tr.path 42, Tr.path 47]⟩,
       ⟨(some (Tr.path 49)), (some (.p (eqcF true false [.int .i64] (.t (Tr.path 48)) (.c (.int .i64 0))))), none, [Tr.path 48]⟩] [0, 0, 0, 6, 14, 30, 62, 0, 128, 510, 1022, 0, 0, 6144, 14336, 30720, 65535, 131071]) (
      .cond (.t (Tr.path 49)) (.seq (.reg [
         ⟨(some (Tr.path 4)), (some (.p (S.get (.c (.ptr none))))), none, []⟩,
         ⟨(some (Tr.path 5)), (some (.p (S.get (.c (.int .i64 0))))), none, []⟩,
         ⟨(some (Tr.path 6)), (some (.p (S.get (.c (.bool false))))), none, []⟩]) (
        .ret)) (.skip)))) (
    .reg [
    ⟨(some (Tr.path 30)), (some (.p (S.get (.t (Tr.path 10))))), none, [Tr.path 10]⟩,
    ⟨(some (Tr.path 31)), (some (.p (arF .add (.t (Tr.path 30)) (.c (.int .i64 1))))), none, [Tr.path 30]⟩,
    ⟨(some (Tr.path 10)), (some (.p (S.get (.t (Tr.path 31))))), none, [Tr.path 31]⟩]))
/-- ashlar/ashlarlaw05.filled -/
noncomputable def c15 : CFn := ⟨[.tmp (Tr.path 4), .tmp (Tr.path 5), .tmp (Tr.path 6)],
 .seq (.reg [
  ⟨(some (Tr.path 4)), (some (.p (S.get (.c (.ptr none))))), none, []⟩,
  ⟨(some (Tr.path 5)), (some (.p (S.get (.c (.int .i64 0))))), none, []⟩,
  ⟨(some (Tr.path 6)), (some (.p (S.get (.c (.bool false))))), none, []⟩]) (
 .seq (.reg [
  ⟨(some (Tr.path 11)), (some (.p (S.get (.t (Tr.path 0))))), none, [Tr.path 0]⟩,
  ⟨(some (Tr.path 12)), (some (.p (arF .rem (.t (Tr.path 11)) (.c (.int .u8 16))))), none, [Tr.path 11]⟩,
  ⟨(some (Tr.path 13)), (some (.p (convF .i64 (.t (Tr.path 12))))), none, [Tr.path 12]⟩,
  ⟨(some (Tr.path 14)), (some (.p (arF .add (.c (.int .i64 1)) (.t (Tr.path 13))))), none, [Tr.path 13]⟩,
  ⟨(some (Tr.path 7)), (some (.p (S.get (.t (Tr.path 14))))), none, [Tr.path 14]⟩]) (
 .seq (.reg [
  ⟨(some (Tr.path 16)), (some (.p (S.get (.t (Tr.path 7))))), none, [Tr.path 7]⟩,
  ⟨(some (Tr.path 17)), (some (.c (callF (.c (.func (.func 23) [] [])) [(.t (Tr.path 16))]))), none, [Tr.path 16]⟩,
  ⟨(some (Tr.path 15)), (some (.p (S.get (.t (Tr.path 17))))), none, [Tr.path 17]⟩,
  ⟨(some (Tr.path 18)), (some (.p (extF (.t (Tr.path 15)) 0))), none, [Tr.path 15]⟩,
  ⟨(some (Tr.path 19)), (some (.p (extF (.t (Tr.path 15)) 1))), none, [Tr.path 15]⟩,
  ⟨(some (Tr.path 8)), (some (.p (S.get (.t (Tr.path 18))))), none, [Tr.path 18]⟩,
  ⟨(some (Tr.path 9)), (some (.p (S.get (.t (Tr.path 19))))), none, [Tr.path 19]⟩]) (
 .seq (.seq (.reg [
   ⟨(some (Tr.path 20)), (some (.p (S.get (.t (Tr.path 9))))), none, [Tr.path 9]⟩,
   ⟨(some (Tr.path 21)), (some (.p (eqcF true false [.int .i64] (.t (Tr.path 20)) (.c (.int .i64 0))))), none, [Tr.path 20]⟩]) (
  .cond (.t (Tr.path 21)) (.seq (.reg [
     ⟨(some (Tr.path 4)), (some (.p (S.get (.c (.ptr none))))), none, []⟩,
     ⟨(some (Tr.path 5)), (some (.p (S.get (.c (.int .i64 0))))), none, []⟩,
     ⟨(some (Tr.path 6)), (some (.p (S.get (.c (.bool false))))), none, []⟩]) (
    .ret)) (.skip))) (
 .seq (.seq (.reg [
   ⟨(some (Tr.path 10)), (some (.p (S.get (.c (.int .i64 0))))), none, []⟩]) (
  .block 0 (.loop c15_l0))) (
 .seq (.reg [
  ⟨(some (Tr.path 50)), (some (.p (S.get (.t (Tr.path 8))))), none, [Tr.path 8]⟩,
  ⟨(some (Tr.path 51)), (some (.p (S.get (.t (Tr.path 7))))), none, [Tr.path 7]⟩,
  ⟨(some (Tr.path 4)), (some (.p (S.get (.t (Tr.path 50))))), none, [Tr.path 50]⟩,
  ⟨(some (Tr.path 5)), (some (.p (S.get (.t (Tr.path 51))))), none, [Tr.path 51]⟩,
  ⟨(some (Tr.path 6)), (some (.p (S.get (.c (.bool true))))), none, []⟩]) (
 .ret))))))⟩
theorem c15_eq : fnOf Try.prog 15 = some c15 := by kernel_rfl


theorem Turns.after {X : Bk → Prop} {H0 H H' : Heap} {Y : Bk → Prop} (h : Turns X H0 H) (k : Turns Y H H') (hy : ∀ c, H0.Old c → Y c → X c) : Turns X H0 H' :=
  ⟨Nat.le_trans h.next k.next, fun c hc hx => (k.same c (hc.mono h.next) (fun e => hx (hy c hc e))).trans (h.same c hc hx), fun q => k.q (h.q q)⟩

structure Fresh (H0 : Heap) (b : Bk) (y : Lay) (D : Dev) : Prop where
  b : ¬ H0.Old b
  s : ¬ H0.Old y.s
  l : D.L ≠ [] → ¬ H0.Old y.l

theorem Fresh.foot {H0 : Heap} {b : Bk} {y : Lay} {D : Dev} (h : Fresh H0 b y D) : ∀ c, Foot b y D c → ¬ H0.Old c := by
  rintro c (rfl | rfl | ⟨hl, rfl⟩)
  · exact h.b
  · exact h.s
  · exact h.l hl
theorem Fresh.next {H0 H H' : Heap} {b : Bk} {y y' : Lay} {D D' : Dev} (h : Fresh H0 b y D) (hn : H0.next ≤ H.next) (k : Next H b y D H' y' D') : Fresh H0 b y' D' :=
  ⟨h.b, by rw [k.s]; exact h.s, fun e => by
    rcases k.l e with ⟨h1, h2⟩ | h1
    · rw [h2]; exact h.l h1
    · exact fun o => h1 (o.mono hn)⟩
theorem Fresh.turns {H0 H H' : Heap} {b : Bk} {y y' : Lay} {D D' : Dev} (h : Fresh H0 b y D) (hT : Turns Z H0 H) (k : Next H b y D H' y' D') : Turns Z H0 H' :=
  Turns.after hT k.turns (fun c hc hx => (h.foot c hx hc).elim)

theorem new_ok (H : Heap) {n : Nat} (h1 : 1 ≤ n) (h2 : n ≤ 512) (lf m : Nat) : ret (callS Try.prog S0 lf (m + 1) 23 [.int .i64 (n : Int)] H) fun v H' => v = .tuple [.ptr (some ⟨.run (H.next + 1), 0⟩), .int .i64 0] ∧
    DevAt H' (.run (H.next + 1)) ⟨.run H.next, 0, .run H.next, none, 0⟩ ⟨List.replicate n 0, [], false⟩ ∧ Turns Z H H' := by
  have g1 : ¬ ((n : Int) < 1) := by omega
  have g2 : ¬ (512 < (n : Int)) := by omega
  have g3 : n ≤ n := Nat.le_refl _
  have g4 : n * 64 ≤ 1099511627776 := by omega
  have g4' : 64 * n ≤ 1099511627776 := by omega
  have g5 : n ≤ 1099511627776 := by omega
  refine ret_call rfl c23_eq ?_
  simp only [c23, g1, g2, g3, g4, g4', g5, mksliceF, sC_skip, sC_reg, sC_seq, sC_cond, sC_block, sC_exit, sC_scope, sC_ret, sC_regD, sI_nil, sI_none, sI_guard, guard_t, guard_f, want_b, want_u, sO_p, sO_r, sO_m, sO_a, sO_c, sD_nil, sD_none, sD_guard, guardD_t, guardD_f, sE_p, sE_r, sE_m, sE_a, sE_c, evQ_some, evR_some, evM_some, evA_some, evC_some, callD_some, contD_some, consD_some, setT_some, setT_none, narrow_nil, narrow_cons, narrowC_some, seq_n, seq_ret, seq_ex, block_n, block_ret, block_ex, cond_t, cond_f, afterV_some, afterM_some, afterA_some, afterC_some, callC_some, get_t, get_c, get_setP, Tr.getP_e, argsT_nil, argsT_cons, ↓reduceIte, Nat.reduceEqDiff, Nat.reduceAdd, Nat.reduceSub, Nat.reduceMul, Nat.reduceDiv, Nat.reduceMod, Nat.zero_add, Nat.add_zero, beq_self_eq_true, Nat.zero_ne_one, Nat.one_ne_zero, Nat.reduceLeDiff, Int.reduceBEq, constF, unF, unary,  pickF, nilcF, faddrF, fldF, iaddrSF, arF, arith_lss, arith_leq, arith_gtr, arith_geq, arith_add, arith_sub, convF, extF, lenF, eqcF, eqnF, eqN, eqPtr, isNone, loadF, storeF, allocF, callF, gets, Option.map_some, Option.bind_some, add_eq, mul_eq, sub_eq, div_eq, mod_eq, nbeq, nble, asBlk_int, flat_int, cells_int, asBlk_bool, flat_bool, cells_bool, asBlk_ptr, flat_ptr, cells_ptr, asBlk_slice, flat_slice, cells_slice, asBlk_map, flat_map, cells_map, asBlk_blk, flat_blk, cells_blk, cells_agg, flat_agg, asBlk_agg, V.w, width, unc, cmpCells, eqI_eq, eqB_eq, mkI_eq, asNat_int, asNat_zero, asNat_one, undef, List.append_nil, List.nil_append, List.cons_append, nth_zero, nth_succ, resultsV, result, tup, wp_some, Bool.and_true, Bool.true_and, Bool.and_self, decide_true, decide_false, Bool.not_true, Bool.not_false, Bool.true_beq, Bool.false_beq, beq_iff_eq, reduceCtorEq, Nat.succ_eq_add_one, ptr0, Int.ofNat_eq_natCast, Int.ofNat_le, Int.ofNat_lt, Int.natCast_add, store_new, store_new65, load_set65, load_set65', load_set, List.map_cons, List.map_nil, sC_loop, Heap.next_add, Heap.next_set, boxF, buildF, fill, bsliceF, fillRows, List.replicate_one, upd_zero, put_blk, cut_blk, cut_whole, put_hit_int, put_miss_int, cut_hit_int, cut_miss_int, put_hit_bool, put_miss_bool, cut_hit_bool, cut_miss_bool, put_hit_ptr, put_miss_ptr, cut_hit_ptr, cut_miss_ptr, put_hit_slice, put_miss_slice, cut_hit_slice, cut_miss_slice, put_hit_map, put_miss_map, cut_hit_map, cut_miss_map, load_add, appF, List.length_cons, List.length_nil]
  refine ⟨trivial, .inr trivial, _, rfl, rfl, ?_, ((Turns.refl Z H).addm _).addm _⟩
  refine ⟨?_, ?_, fun _ => ⟨rfl, rfl⟩, fun e => absurd rfl e, ⟨?_, ?_, fun e => absurd rfl e⟩, by simp, fun e => absurd rfl e⟩
  · rw [Heap.get_add, if_pos (by simp)]; simp
  · rw [Heap.get_add, if_neg (by simp), Heap.get_add, if_pos rfl]
    simp [sureRows]
  · show _ < _
    first | (simp; done) | (simp; omega)
  · show _ < _
    first | (simp; done) | (simp; omega)

structure WritesAt (H : Heap) (pp : Option Ptr) (W : List (Int × Nat)) : Prop where
  at' : W ≠ [] → ∃ x ro rows, pp = some ⟨x, 0⟩ ∧ H.Old x ∧ H.get x = some (.rows ro 65 rows) ∧ ∀ i, (hi : i < W.length) → rows[i]? = some [.int .i64 W[i].1, .blk W[i].2]
theorem WritesAt.turns {H H' : Heap} {pp : Option Ptr} {W : List (Int × Nat)} (h : WritesAt H pp W) (k : Turns Z H H') : WritesAt H' pp W := ⟨fun e => by
  obtain ⟨x, ro, rows, hp, ho, hg, hr⟩ := h.at' e
  exact ⟨x, ro, rows, hp, ho.mono k.next, (k.same x ho id).trans hg, hr⟩⟩
theorem WritesAt.load {H : Heap} {pp : Option Ptr} {W : List (Int × Nat)} (h : WritesAt H pp W) {i : Nat} (hi : i < W.length) : ∃ x, pp = some ⟨x, 0⟩ ∧ loadAt H ⟨x, i * 65⟩ 1 = some [.int .i64 W[i].1] ∧ loadAt H ⟨x, i * 65 + 1⟩ 64 = some [.blk W[i].2] := by
  obtain ⟨x, ro, rows, hp, _, hg, hr⟩ := h.at' (fun e => by rw [e] at hi; simp at hi)
  have e1 : (i * 65 + 1) / 65 = i := by omega
  have e2 : (i * 65 + 1) % 65 = 0 + 1 := by omega
  refine ⟨x, hp, ?_, ?_⟩
  · rw [loadAt_eq hg (r := [.int .i64 W[i].1, .blk W[i].2]) (nth_of (by rw [Nat.mul_div_cancel _ (by decide)]; exact hr i hi)), Nat.mul_mod_left]
    exact cut_hit _ _ rfl
  · rw [loadAt_eq hg (r := [.int .i64 W[i].1, .blk W[i].2]) (nth_of (by rw [e1]; exact hr i hi)), e2, cut_miss (n := 63) _ _ _ (by rfl)]
    exact cut_blk _ _

/-- int(uint(x) % uint(n)) -/
def modN (x : Int) (n : Nat) : Nat := (IntKind.u64.wrap x).toNat % n
theorem modN_lt (x : Int) {n : Nat} (hn : 0 < n) : modN x n < n := Nat.mod_lt _ hn
theorem rem_nat (k : IntKind) (a b : Nat) (hb : b ≠ 0) : arith .rem (.int k (a : Int)) (.int k (b : Int)) = some (.int k ((a % b : Nat) : Int)) := by
  rw [arith_rem k _ _ (by omega)]
  rfl
theorem mod_steps (x : Int) {n : Nat} (hn : 0 < n) (hn2 : n ≤ 1000) : arith .rem (.int .u64 (IntKind.u64.wrap x)) (.int .u64 (n : Int)) = some (.int .u64 ((modN x n : Nat) : Int)) := by
  have h := wrap_u64_range x
  have e : IntKind.u64.wrap x = (((IntKind.u64.wrap x).toNat : Nat) : Int) := (Int.toNat_of_nonneg h.1).symm
  rw [e, rem_nat _ _ _ (by omega)]
  rfl

def filledD (n : Nat) (W : List (Int × Nat)) (i : Nat) : Dev := ⟨List.replicate n 0, (W.take i).map fun w => (modN w.1 n, w.2), false⟩

theorem filled_ok (H : Heap) {s : Nat} (hs : s < 256) {lp : Option Ptr} {lc lo : Nat} {W : List (Int × Nat)} (hW : WritesAt H lp W) {lf : Nat} (hlf : 1000 < lf) (m : Nat) :
    ret (callS Try.prog S0 lf (m + 4) 15 [.int .u8 (s : Int), .slice lp W.length lc lo] H) fun v H' => ∃ b y, v = .tuple [.ptr (some ⟨b, 0⟩), .int .i64 ((s % 16 + 1 : Nat) : Int), .bool true] ∧ DevAt H' b y (filledD (s % 16 + 1) W 40) ∧ Fresh H b y (filledD (s % 16 + 1) W 40) ∧ Turns Z H H' := by
  have hrem : arith .rem (.int .u8 (s : Int)) (.int .u8 16) = some (.int .u8 ((s % 16 : Nat) : Int)) := rem_nat .u8 s 16 (by decide)
  have hm16 : s % 16 < 16 := Nat.mod_lt _ (by decide)
  generalize hN : s % 16 = r at hrem hm16
  generalize hrr : r + 1 = rr
  have hw1 : IntKind.i64.wrap ((r : Nat) : Int) = (r : Int) := wrap_i64 (by omega)
  have hw2 : IntKind.i64.wrap (1 + (r : Int)) = ((rr : Nat) : Int) := by rw [wrap_i64 (by omega)]; omega
  refine ret_call rfl c15_eq ?_
  obtain ⟨v, H1, e, rfl, hD1, hT1⟩ := new_ok H (n := rr) (by omega) (by omega) lf (m + 2)
  have hloop : ∀ t : T, t.getP (Tr.path 1) = some (.slice lp W.length lc lo) → t.getP (Tr.path 7) = some (.int .i64 ((rr : Nat) : Int)) → t.getP (Tr.path 8) = some (.ptr (some ⟨.run (H.next + 1), 0⟩)) → t.getP (Tr.path 10) = some (.int .i64 0) →
      wp (loopF (runC (callS Try.prog S0 lf (m + 3)) lf c15_l0) lf ⟨t, H1, []⟩) fun x s =>
        x = .ex 0 ∧ s.d = [] ∧ s.t.getP (Tr.path 7) = some (.int .i64 ((rr : Nat) : Int)) ∧ s.t.getP (Tr.path 8) = some (.ptr (some ⟨.run (H.next + 1), 0⟩)) ∧ ∃ y, DevAt s.H (.run (H.next + 1)) y (filledD (rr) W 40) ∧ Fresh H (.run (H.next + 1)) y (filledD (rr) W 40) ∧ Turns Z H s.H := by
    intro t q1 q7 q8 q10
    refine wp_loopF (fun k s => ∃ i y, i + k = 40 ∧ s.d = [] ∧ s.t.getP (Tr.path 1) = some (.slice lp W.length lc lo) ∧ s.t.getP (Tr.path 7) = some (.int .i64 ((rr : Nat) : Int)) ∧ s.t.getP (Tr.path 8) = some (.ptr (some ⟨.run (H.next + 1), 0⟩)) ∧ s.t.getP (Tr.path 10) = some (.int .i64 (i : Int)) ∧ DevAt s.H (.run (H.next + 1)) y (filledD (rr) W i) ∧ Fresh H (.run (H.next + 1)) y (filledD (rr) W i) ∧ Turns Z H s.H) ?_ lf 40 _ ⟨0, _, rfl, rfl, q1, q7, q8, q10, hD1, ⟨Heap.not_old (by omega), Heap.not_old (Nat.le_refl _), fun e => absurd rfl e⟩, hT1⟩ (by omega)
    rintro k ⟨t, HH, d⟩ ⟨i, y, hi, rfl, q1, q7, q8, q10, hD, hF, hT⟩
    dsimp only at q1 q7 q8 q10 hD hF hT
    by_cases hiW : i < W.length
    · cases k with
      | zero =>
        have hi : i = 40 := by omega
        subst hi
        have hg : ¬ ((40 : Int) < 40) := by decide
        have q10 : t.getP (Tr.path 10) = some (.int .i64 40) := q10
        have hiW' : (40 : Int) < (W.length : Int) := by omega
        simp only [c15_l0, q1, q7, q8, q10, hiW', hg, sC_skip, sC_reg, sC_seq, sC_cond, sC_block, sC_exit, sC_scope, sC_ret, sC_regD, sI_nil, sI_none, sI_guard, guard_t, guard_f, want_b, want_u, sO_p, sO_r, sO_m, sO_a, sO_c, sD_nil, sD_none, sD_guard, guardD_t, guardD_f, sE_p, sE_r, sE_m, sE_a, sE_c, evQ_some, evR_some, evM_some, evA_some, evC_some, callD_some, contD_some, consD_some, setT_some, setT_none, narrow_nil, narrow_cons, narrowC_some, seq_n, seq_ret, seq_ex, block_n, block_ret, block_ex, cond_t, cond_f, afterV_some, afterM_some, afterA_some, afterC_some, callC_some, get_t, get_c, get_setP, Tr.getP_e, argsT_nil, argsT_cons, ↓reduceIte, Nat.reduceEqDiff, Nat.reduceAdd, Nat.reduceSub, Nat.reduceMul, Nat.reduceDiv, Nat.reduceMod, Nat.zero_add, Nat.add_zero, beq_self_eq_true, Nat.zero_ne_one, Nat.one_ne_zero, Nat.reduceLeDiff, Int.reduceBEq, constF, unF, unary,  pickF, nilcF, faddrF, fldF, iaddrSF, arF, arith_lss, arith_leq, arith_gtr, arith_geq, arith_add, arith_sub, convF, extF, lenF, eqcF, eqnF, eqN, eqPtr, isNone, loadF, storeF, allocF, callF, gets, Option.map_some, Option.bind_some, add_eq, mul_eq, sub_eq, div_eq, mod_eq, nbeq, nble, asBlk_int, flat_int, cells_int, asBlk_bool, flat_bool, cells_bool, asBlk_ptr, flat_ptr, cells_ptr, asBlk_slice, flat_slice, cells_slice, asBlk_map, flat_map, cells_map, asBlk_blk, flat_blk, cells_blk, cells_agg, flat_agg, asBlk_agg, V.w, width, unc, cmpCells, eqI_eq, eqB_eq, mkI_eq, asNat_int, asNat_zero, asNat_one, undef, List.append_nil, List.nil_append, List.cons_append, nth_zero, nth_succ, resultsV, result, tup, wp_some, Bool.and_true, Bool.true_and, Bool.and_self, decide_true, decide_false, Bool.not_true, Bool.not_false, Bool.true_beq, Bool.false_beq, beq_iff_eq, reduceCtorEq, Nat.succ_eq_add_one, ptr0, Int.ofNat_eq_natCast, Int.ofNat_le, Int.ofNat_lt, Int.natCast_add, store_new, store_new65, load_set65, load_set65', load_set, List.map_cons, List.map_nil, sC_loop, Heap.next_add, Heap.next_set, boxF, buildF, fill, bsliceF, fillRows, List.replicate_one, upd_zero, put_blk, cut_blk, cut_whole, put_hit_int, put_miss_int, cut_hit_int, cut_miss_int, put_hit_bool, put_miss_bool, cut_hit_bool, cut_miss_bool, put_hit_ptr, put_miss_ptr, cut_hit_ptr, cut_miss_ptr, put_hit_slice, put_miss_slice, cut_hit_slice, cut_miss_slice, put_hit_map, put_miss_map, cut_hit_map, cut_miss_map, load_add, appF, List.length_cons, List.length_nil]
        exact ⟨trivial, trivial, trivial, trivial, y, hD, hF, hT⟩
      | succ k =>
        have h40 : (i : Int) < 40 := by omega
        have hi1 : i + 1 ≤ W.length := hiW
        obtain ⟨x, hpx, l1, l2⟩ := (hW.turns hT).load hiW
        rw [hpx] at q1
        have hms := mod_steps W[i].1 (n := rr) (by omega) (by omega)
        have hmn := modN_lt W[i].1 (n := rr) (by omega)
        have hwn : IntKind.u64.wrap ((rr : Nat) : Int) = ((rr : Nat) : Int) := wrap_u64 (by omega)
        have hwm : IntKind.i64.wrap ((modN W[i].1 (rr) : Nat) : Int) = ((modN W[i].1 (rr) : Nat) : Int) := wrap_i64 (by omega)
        have hlen : (filledD (rr) W i).L.length = i := by simp [filledD]; omega
        obtain ⟨v, H2, ew, rfl, y', hNx⟩ := write_ok hD (n := modN W[i].1 (rr)) (by simpa [filledD] using hmn) rfl (by omega) W[i].2 lf m
        have hw : IntKind.i64.wrap ((i : Int) + 1) = ((i + 1 : Nat) : Int) := by rw [wrap_i64 (by omega)]; rfl
        have hfd : filledD (rr) W (i + 1) = { S := (filledD (rr) W i).S, L := (filledD (rr) W i).L ++ [(modN W[i].1 (rr), W[i].2)], dead := (filledD (rr) W i).dead } := by
          unfold filledD; rw [List.take_succ_eq_append_getElem hiW, List.map_append]; rfl
        rw [← hfd] at hNx
        generalize hmm : modN W[i].1 (rr) = mm at hms hmn hwm ew
        simp only [c15_l0, q1, q7, q8, q10, hiW, h40, hi1, l1, l2, hms, hwn, hwm, ew, sC_skip, sC_reg, sC_seq, sC_cond, sC_block, sC_exit, sC_scope, sC_ret, sC_regD, sI_nil, sI_none, sI_guard, guard_t, guard_f, want_b, want_u, sO_p, sO_r, sO_m, sO_a, sO_c, sD_nil, sD_none, sD_guard, guardD_t, guardD_f, sE_p, sE_r, sE_m, sE_a, sE_c, evQ_some, evR_some, evM_some, evA_some, evC_some, callD_some, contD_some, consD_some, setT_some, setT_none, narrow_nil, narrow_cons, narrowC_some, seq_n, seq_ret, seq_ex, block_n, block_ret, block_ex, cond_t, cond_f, afterV_some, afterM_some, afterA_some, afterC_some, callC_some, get_t, get_c, get_setP, Tr.getP_e, argsT_nil, argsT_cons, ↓reduceIte, Nat.reduceEqDiff, Nat.reduceAdd, Nat.reduceSub, Nat.reduceMul, Nat.reduceDiv, Nat.reduceMod, Nat.zero_add, Nat.add_zero, beq_self_eq_true, Nat.zero_ne_one, Nat.one_ne_zero, Nat.reduceLeDiff, Int.reduceBEq, constF, unF, unary,  pickF, nilcF, faddrF, fldF, iaddrSF, arF, arith_lss, arith_leq, arith_gtr, arith_geq, arith_add, arith_sub, convF, extF, lenF, eqcF, eqnF, eqN, eqPtr, isNone, loadF, storeF, allocF, callF, gets, Option.map_some, Option.bind_some, add_eq, mul_eq, sub_eq, div_eq, mod_eq, nbeq, nble, asBlk_int, flat_int, cells_int, asBlk_bool, flat_bool, cells_bool, asBlk_ptr, flat_ptr, cells_ptr, asBlk_slice, flat_slice, cells_slice, asBlk_map, flat_map, cells_map, asBlk_blk, flat_blk, cells_blk, cells_agg, flat_agg, asBlk_agg, V.w, width, unc, cmpCells, eqI_eq, eqB_eq, mkI_eq, asNat_int, asNat_zero, asNat_one, undef, List.append_nil, List.nil_append, List.cons_append, nth_zero, nth_succ, resultsV, result, tup, wp_some, Bool.and_true, Bool.true_and, Bool.and_self, decide_true, decide_false, Bool.not_true, Bool.not_false, Bool.true_beq, Bool.false_beq, beq_iff_eq, reduceCtorEq, Nat.succ_eq_add_one, ptr0, Int.ofNat_eq_natCast, Int.ofNat_le, Int.ofNat_lt, Int.natCast_add, store_new, store_new65, load_set65, load_set65', load_set, List.map_cons, List.map_nil, sC_loop, Heap.next_add, Heap.next_set, boxF, buildF, fill, bsliceF, fillRows, List.replicate_one, upd_zero, put_blk, cut_blk, cut_whole, put_hit_int, put_miss_int, cut_hit_int, cut_miss_int, put_hit_bool, put_miss_bool, cut_hit_bool, cut_miss_bool, put_hit_ptr, put_miss_ptr, cut_hit_ptr, cut_miss_ptr, put_hit_slice, put_miss_slice, cut_hit_slice, cut_miss_slice, put_hit_map, put_miss_map, cut_hit_map, cut_miss_map, load_add, appF, List.length_cons, List.length_nil]
        rw [endD_ok (by kernel_rfl) (by kernel_rfl)]
        simp only [q1, q7, q8, q10, hw, sC_skip, sC_reg, sC_seq, sC_cond, sC_block, sC_exit, sC_scope, sC_ret, sC_regD, sI_nil, sI_none, sI_guard, guard_t, guard_f, want_b, want_u, sO_p, sO_r, sO_m, sO_a, sO_c, sD_nil, sD_none, sD_guard, guardD_t, guardD_f, sE_p, sE_r, sE_m, sE_a, sE_c, evQ_some, evR_some, evM_some, evA_some, evC_some, callD_some, contD_some, consD_some, setT_some, setT_none, narrow_nil, narrow_cons, narrowC_some, seq_n, seq_ret, seq_ex, block_n, block_ret, block_ex, cond_t, cond_f, afterV_some, afterM_some, afterA_some, afterC_some, callC_some, get_t, get_c, get_setP, Tr.getP_e, argsT_nil, argsT_cons, ↓reduceIte, Nat.reduceEqDiff, Nat.reduceAdd, Nat.reduceSub, Nat.reduceMul, Nat.reduceDiv, Nat.reduceMod, Nat.zero_add, Nat.add_zero, beq_self_eq_true, Nat.zero_ne_one, Nat.one_ne_zero, Nat.reduceLeDiff, Int.reduceBEq, constF, unF, unary,  pickF, nilcF, faddrF, fldF, iaddrSF, arF, arith_lss, arith_leq, arith_gtr, arith_geq, arith_add, arith_sub, convF, extF, lenF, eqcF, eqnF, eqN, eqPtr, isNone, loadF, storeF, allocF, callF, gets, Option.map_some, Option.bind_some, add_eq, mul_eq, sub_eq, div_eq, mod_eq, nbeq, nble, asBlk_int, flat_int, cells_int, asBlk_bool, flat_bool, cells_bool, asBlk_ptr, flat_ptr, cells_ptr, asBlk_slice, flat_slice, cells_slice, asBlk_map, flat_map, cells_map, asBlk_blk, flat_blk, cells_blk, cells_agg, flat_agg, asBlk_agg, V.w, width, unc, cmpCells, eqI_eq, eqB_eq, mkI_eq, asNat_int, asNat_zero, asNat_one, undef, List.append_nil, List.nil_append, List.cons_append, nth_zero, nth_succ, resultsV, result, tup, wp_some, Bool.and_true, Bool.true_and, Bool.and_self, decide_true, decide_false, Bool.not_true, Bool.not_false, Bool.true_beq, Bool.false_beq, beq_iff_eq, reduceCtorEq, Nat.succ_eq_add_one, ptr0, Int.ofNat_eq_natCast, Int.ofNat_le, Int.ofNat_lt, Int.natCast_add, store_new, store_new65, load_set65, load_set65', load_set, List.map_cons, List.map_nil, sC_loop, Heap.next_add, Heap.next_set, boxF, buildF, fill, bsliceF, fillRows, List.replicate_one, upd_zero, put_blk, cut_blk, cut_whole, put_hit_int, put_miss_int, cut_hit_int, cut_miss_int, put_hit_bool, put_miss_bool, cut_hit_bool, cut_miss_bool, put_hit_ptr, put_miss_ptr, cut_hit_ptr, cut_miss_ptr, put_hit_slice, put_miss_slice, cut_hit_slice, cut_miss_slice, put_hit_map, put_miss_map, cut_hit_map, cut_miss_map, load_add, appF, List.length_cons, List.length_nil]
        refine ⟨k, Nat.lt_succ_self k, i + 1, y', by omega, trivial, by rw [hpx], trivial, trivial, rfl, hNx.dev, hF.next hT.next hNx, hF.turns hT hNx⟩
    · have hg : ¬ (i < W.length) := hiW
      have hfd : filledD (rr) W i = filledD (rr) W 40 := by
        unfold filledD; rw [List.take_of_length_le (by omega), List.take_of_length_le (by omega)]
      rw [hfd] at hD hF
      simp only [c15_l0, q1, q7, q8, q10, hg, sC_skip, sC_reg, sC_seq, sC_cond, sC_block, sC_exit, sC_scope, sC_ret, sC_regD, sI_nil, sI_none, sI_guard, guard_t, guard_f, want_b, want_u, sO_p, sO_r, sO_m, sO_a, sO_c, sD_nil, sD_none, sD_guard, guardD_t, guardD_f, sE_p, sE_r, sE_m, sE_a, sE_c, evQ_some, evR_some, evM_some, evA_some, evC_some, callD_some, contD_some, consD_some, setT_some, setT_none, narrow_nil, narrow_cons, narrowC_some, seq_n, seq_ret, seq_ex, block_n, block_ret, block_ex, cond_t, cond_f, afterV_some, afterM_some, afterA_some, afterC_some, callC_some, get_t, get_c, get_setP, Tr.getP_e, argsT_nil, argsT_cons, ↓reduceIte, Nat.reduceEqDiff, Nat.reduceAdd, Nat.reduceSub, Nat.reduceMul, Nat.reduceDiv, Nat.reduceMod, Nat.zero_add, Nat.add_zero, beq_self_eq_true, Nat.zero_ne_one, Nat.one_ne_zero, Nat.reduceLeDiff, Int.reduceBEq, constF, unF, unary,  pickF, nilcF, faddrF, fldF, iaddrSF, arF, arith_lss, arith_leq, arith_gtr, arith_geq, arith_add, arith_sub, convF, extF, lenF, eqcF, eqnF, eqN, eqPtr, isNone, loadF, storeF, allocF, callF, gets, Option.map_some, Option.bind_some, add_eq, mul_eq, sub_eq, div_eq, mod_eq, nbeq, nble, asBlk_int, flat_int, cells_int, asBlk_bool, flat_bool, cells_bool, asBlk_ptr, flat_ptr, cells_ptr, asBlk_slice, flat_slice, cells_slice, asBlk_map, flat_map, cells_map, asBlk_blk, flat_blk, cells_blk, cells_agg, flat_agg, asBlk_agg, V.w, width, unc, cmpCells, eqI_eq, eqB_eq, mkI_eq, asNat_int, asNat_zero, asNat_one, undef, List.append_nil, List.nil_append, List.cons_append, nth_zero, nth_succ, resultsV, result, tup, wp_some, Bool.and_true, Bool.true_and, Bool.and_self, decide_true, decide_false, Bool.not_true, Bool.not_false, Bool.true_beq, Bool.false_beq, beq_iff_eq, reduceCtorEq, Nat.succ_eq_add_one, ptr0, Int.ofNat_eq_natCast, Int.ofNat_le, Int.ofNat_lt, Int.natCast_add, store_new, store_new65, load_set65, load_set65', load_set, List.map_cons, List.map_nil, sC_loop, Heap.next_add, Heap.next_set, boxF, buildF, fill, bsliceF, fillRows, List.replicate_one, upd_zero, put_blk, cut_blk, cut_whole, put_hit_int, put_miss_int, cut_hit_int, cut_miss_int, put_hit_bool, put_miss_bool, cut_hit_bool, cut_miss_bool, put_hit_ptr, put_miss_ptr, cut_hit_ptr, cut_miss_ptr, put_hit_slice, put_miss_slice, cut_hit_slice, cut_miss_slice, put_hit_map, put_miss_map, cut_hit_map, cut_miss_map, load_add, appF, List.length_cons, List.length_nil]
      exact ⟨trivial, trivial, trivial, trivial, y, hD, hF, hT⟩
  change callS Try.prog S0 lf (m + 3) 23 [.int .i64 ((rr : Nat) : Int)] H = _ at e
  simp only [c15, hrem, hw1, hw2, e, sC_skip, sC_reg, sC_seq, sC_cond, sC_block, sC_exit, sC_scope, sC_ret, sC_regD, sI_nil, sI_none, sI_guard, guard_t, guard_f, want_b, want_u, sO_p, sO_r, sO_m, sO_a, sO_c, sD_nil, sD_none, sD_guard, guardD_t, guardD_f, sE_p, sE_r, sE_m, sE_a, sE_c, evQ_some, evR_some, evM_some, evA_some, evC_some, callD_some, contD_some, consD_some, setT_some, setT_none, narrow_nil, narrow_cons, narrowC_some, seq_n, seq_ret, seq_ex, block_n, block_ret, block_ex, cond_t, cond_f, afterV_some, afterM_some, afterA_some, afterC_some, callC_some, get_t, get_c, get_setP, Tr.getP_e, argsT_nil, argsT_cons, ↓reduceIte, Nat.reduceEqDiff, Nat.reduceAdd, Nat.reduceSub, Nat.reduceMul, Nat.reduceDiv, Nat.reduceMod, Nat.zero_add, Nat.add_zero, beq_self_eq_true, Nat.zero_ne_one, Nat.one_ne_zero, Nat.reduceLeDiff, Int.reduceBEq, constF, unF, unary,  pickF, nilcF, faddrF, fldF, iaddrSF, arF, arith_lss, arith_leq, arith_gtr, arith_geq, arith_add, arith_sub, convF, extF, lenF, eqcF, eqnF, eqN, eqPtr, isNone, loadF, storeF, allocF, callF, gets, Option.map_some, Option.bind_some, add_eq, mul_eq, sub_eq, div_eq, mod_eq, nbeq, nble, asBlk_int, flat_int, cells_int, asBlk_bool, flat_bool, cells_bool, asBlk_ptr, flat_ptr, cells_ptr, asBlk_slice, flat_slice, cells_slice, asBlk_map, flat_map, cells_map, asBlk_blk, flat_blk, cells_blk, cells_agg, flat_agg, asBlk_agg, V.w, width, unc, cmpCells, eqI_eq, eqB_eq, mkI_eq, asNat_int, asNat_zero, asNat_one, undef, List.append_nil, List.nil_append, List.cons_append, nth_zero, nth_succ, resultsV, result, tup, wp_some, Bool.and_true, Bool.true_and, Bool.and_self, decide_true, decide_false, Bool.not_true, Bool.not_false, Bool.true_beq, Bool.false_beq, beq_iff_eq, reduceCtorEq, Nat.succ_eq_add_one, ptr0, Int.ofNat_eq_natCast, Int.ofNat_le, Int.ofNat_lt, Int.natCast_add, store_new, store_new65, load_set65, load_set65', load_set, List.map_cons, List.map_nil, sC_loop, Heap.next_add, Heap.next_set, boxF, buildF, fill, bsliceF, fillRows, List.replicate_one, upd_zero, put_blk, cut_blk, cut_whole, put_hit_int, put_miss_int, cut_hit_int, cut_miss_int, put_hit_bool, put_miss_bool, cut_hit_bool, cut_miss_bool, put_hit_ptr, put_miss_ptr, cut_hit_ptr, cut_miss_ptr, put_hit_slice, put_miss_slice, cut_hit_slice, cut_miss_slice, put_hit_map, put_miss_map, cut_hit_map, cut_miss_map, load_add, appF, List.length_cons, List.length_nil]
  refine wp_ctx (F := fun r => seqC _ _ _ (blockC _ r)) (hloop _ ?_ ?_ ?_ ?_) ?_
  · simp only [sC_skip, sC_reg, sC_seq, sC_cond, sC_block, sC_exit, sC_scope, sC_ret, sC_regD, sI_nil, sI_none, sI_guard, guard_t, guard_f, want_b, want_u, sO_p, sO_r, sO_m, sO_a, sO_c, sD_nil, sD_none, sD_guard, guardD_t, guardD_f, sE_p, sE_r, sE_m, sE_a, sE_c, evQ_some, evR_some, evM_some, evA_some, evC_some, callD_some, contD_some, consD_some, setT_some, setT_none, narrow_nil, narrow_cons, narrowC_some, seq_n, seq_ret, seq_ex, block_n, block_ret, block_ex, cond_t, cond_f, afterV_some, afterM_some, afterA_some, afterC_some, callC_some, get_t, get_c, get_setP, Tr.getP_e, argsT_nil, argsT_cons, ↓reduceIte, Nat.reduceEqDiff, Nat.reduceAdd, Nat.reduceSub, Nat.reduceMul, Nat.reduceDiv, Nat.reduceMod, Nat.zero_add, Nat.add_zero, beq_self_eq_true, Nat.zero_ne_one, Nat.one_ne_zero, Nat.reduceLeDiff, Int.reduceBEq, constF, unF, unary,  pickF, nilcF, faddrF, fldF, iaddrSF, arF, arith_lss, arith_leq, arith_gtr, arith_geq, arith_add, arith_sub, convF, extF, lenF, eqcF, eqnF, eqN, eqPtr, isNone, loadF, storeF, allocF, callF, gets, Option.map_some, Option.bind_some, add_eq, mul_eq, sub_eq, div_eq, mod_eq, nbeq, nble, asBlk_int, flat_int, cells_int, asBlk_bool, flat_bool, cells_bool, asBlk_ptr, flat_ptr, cells_ptr, asBlk_slice, flat_slice, cells_slice, asBlk_map, flat_map, cells_map, asBlk_blk, flat_blk, cells_blk, cells_agg, flat_agg, asBlk_agg, V.w, width, unc, cmpCells, eqI_eq, eqB_eq, mkI_eq, asNat_int, asNat_zero, asNat_one, undef, List.append_nil, List.nil_append, List.cons_append, nth_zero, nth_succ, resultsV, result, tup, wp_some, Bool.and_true, Bool.true_and, Bool.and_self, decide_true, decide_false, Bool.not_true, Bool.not_false, Bool.true_beq, Bool.false_beq, beq_iff_eq, reduceCtorEq, Nat.succ_eq_add_one, ptr0, Int.ofNat_eq_natCast, Int.ofNat_le, Int.ofNat_lt, Int.natCast_add, store_new, store_new65, load_set65, load_set65', load_set, List.map_cons, List.map_nil, sC_loop, Heap.next_add, Heap.next_set, boxF, buildF, fill, bsliceF, fillRows, List.replicate_one, upd_zero, put_blk, cut_blk, cut_whole, put_hit_int, put_miss_int, cut_hit_int, cut_miss_int, put_hit_bool, put_miss_bool, cut_hit_bool, cut_miss_bool, put_hit_ptr, put_miss_ptr, cut_hit_ptr, cut_miss_ptr, put_hit_slice, put_miss_slice, cut_hit_slice, cut_miss_slice, put_hit_map, put_miss_map, cut_hit_map, cut_miss_map, load_add, appF, List.length_cons, List.length_nil]
  · simp only [sC_skip, sC_reg, sC_seq, sC_cond, sC_block, sC_exit, sC_scope, sC_ret, sC_regD, sI_nil, sI_none, sI_guard, guard_t, guard_f, want_b, want_u, sO_p, sO_r, sO_m, sO_a, sO_c, sD_nil, sD_none, sD_guard, guardD_t, guardD_f, sE_p, sE_r, sE_m, sE_a, sE_c, evQ_some, evR_some, evM_some, evA_some, evC_some, callD_some, contD_some, consD_some, setT_some, setT_none, narrow_nil, narrow_cons, narrowC_some, seq_n, seq_ret, seq_ex, block_n, block_ret, block_ex, cond_t, cond_f, afterV_some, afterM_some, afterA_some, afterC_some, callC_some, get_t, get_c, get_setP, Tr.getP_e, argsT_nil, argsT_cons, ↓reduceIte, Nat.reduceEqDiff, Nat.reduceAdd, Nat.reduceSub, Nat.reduceMul, Nat.reduceDiv, Nat.reduceMod, Nat.zero_add, Nat.add_zero, beq_self_eq_true, Nat.zero_ne_one, Nat.one_ne_zero, Nat.reduceLeDiff, Int.reduceBEq, constF, unF, unary,  pickF, nilcF, faddrF, fldF, iaddrSF, arF, arith_lss, arith_leq, arith_gtr, arith_geq, arith_add, arith_sub, convF, extF, lenF, eqcF, eqnF, eqN, eqPtr, isNone, loadF, storeF, allocF, callF, gets, Option.map_some, Option.bind_some, add_eq, mul_eq, sub_eq, div_eq, mod_eq, nbeq, nble, asBlk_int, flat_int, cells_int, asBlk_bool, flat_bool, cells_bool, asBlk_ptr, flat_ptr, cells_ptr, asBlk_slice, flat_slice, cells_slice, asBlk_map, flat_map, cells_map, asBlk_blk, flat_blk, cells_blk, cells_agg, flat_agg, asBlk_agg, V.w, width, unc, cmpCells, eqI_eq, eqB_eq, mkI_eq, asNat_int, asNat_zero, asNat_one, undef, List.append_nil, List.nil_append, List.cons_append, nth_zero, nth_succ, resultsV, result, tup, wp_some, Bool.and_true, Bool.true_and, Bool.and_self, decide_true, decide_false, Bool.not_true, Bool.not_false, Bool.true_beq, Bool.false_beq, beq_iff_eq, reduceCtorEq, Nat.succ_eq_add_one, ptr0, Int.ofNat_eq_natCast, Int.ofNat_le, Int.ofNat_lt, Int.natCast_add, store_new, store_new65, load_set65, load_set65', load_set, List.map_cons, List.map_nil, sC_loop, Heap.next_add, Heap.next_set, boxF, buildF, fill, bsliceF, fillRows, List.replicate_one, upd_zero, put_blk, cut_blk, cut_whole, put_hit_int, put_miss_int, cut_hit_int, cut_miss_int, put_hit_bool, put_miss_bool, cut_hit_bool, cut_miss_bool, put_hit_ptr, put_miss_ptr, cut_hit_ptr, cut_miss_ptr, put_hit_slice, put_miss_slice, cut_hit_slice, cut_miss_slice, put_hit_map, put_miss_map, cut_hit_map, cut_miss_map, load_add, appF, List.length_cons, List.length_nil]
  · simp only [sC_skip, sC_reg, sC_seq, sC_cond, sC_block, sC_exit, sC_scope, sC_ret, sC_regD, sI_nil, sI_none, sI_guard, guard_t, guard_f, want_b, want_u, sO_p, sO_r, sO_m, sO_a, sO_c, sD_nil, sD_none, sD_guard, guardD_t, guardD_f, sE_p, sE_r, sE_m, sE_a, sE_c, evQ_some, evR_some, evM_some, evA_some, evC_some, callD_some, contD_some, consD_some, setT_some, setT_none, narrow_nil, narrow_cons, narrowC_some, seq_n, seq_ret, seq_ex, block_n, block_ret, block_ex, cond_t, cond_f, afterV_some, afterM_some, afterA_some, afterC_some, callC_some, get_t, get_c, get_setP, Tr.getP_e, argsT_nil, argsT_cons, ↓reduceIte, Nat.reduceEqDiff, Nat.reduceAdd, Nat.reduceSub, Nat.reduceMul, Nat.reduceDiv, Nat.reduceMod, Nat.zero_add, Nat.add_zero, beq_self_eq_true, Nat.zero_ne_one, Nat.one_ne_zero, Nat.reduceLeDiff, Int.reduceBEq, constF, unF, unary,  pickF, nilcF, faddrF, fldF, iaddrSF, arF, arith_lss, arith_leq, arith_gtr, arith_geq, arith_add, arith_sub, convF, extF, lenF, eqcF, eqnF, eqN, eqPtr, isNone, loadF, storeF, allocF, callF, gets, Option.map_some, Option.bind_some, add_eq, mul_eq, sub_eq, div_eq, mod_eq, nbeq, nble, asBlk_int, flat_int, cells_int, asBlk_bool, flat_bool, cells_bool, asBlk_ptr, flat_ptr, cells_ptr, asBlk_slice, flat_slice, cells_slice, asBlk_map, flat_map, cells_map, asBlk_blk, flat_blk, cells_blk, cells_agg, flat_agg, asBlk_agg, V.w, width, unc, cmpCells, eqI_eq, eqB_eq, mkI_eq, asNat_int, asNat_zero, asNat_one, undef, List.append_nil, List.nil_append, List.cons_append, nth_zero, nth_succ, resultsV, result, tup, wp_some, Bool.and_true, Bool.true_and, Bool.and_self, decide_true, decide_false, Bool.not_true, Bool.not_false, Bool.true_beq, Bool.false_beq, beq_iff_eq, reduceCtorEq, Nat.succ_eq_add_one, ptr0, Int.ofNat_eq_natCast, Int.ofNat_le, Int.ofNat_lt, Int.natCast_add, store_new, store_new65, load_set65, load_set65', load_set, List.map_cons, List.map_nil, sC_loop, Heap.next_add, Heap.next_set, boxF, buildF, fill, bsliceF, fillRows, List.replicate_one, upd_zero, put_blk, cut_blk, cut_whole, put_hit_int, put_miss_int, cut_hit_int, cut_miss_int, put_hit_bool, put_miss_bool, cut_hit_bool, cut_miss_bool, put_hit_ptr, put_miss_ptr, cut_hit_ptr, cut_miss_ptr, put_hit_slice, put_miss_slice, cut_hit_slice, cut_miss_slice, put_hit_map, put_miss_map, cut_hit_map, cut_miss_map, load_add, appF, List.length_cons, List.length_nil]
  · simp only [sC_skip, sC_reg, sC_seq, sC_cond, sC_block, sC_exit, sC_scope, sC_ret, sC_regD, sI_nil, sI_none, sI_guard, guard_t, guard_f, want_b, want_u, sO_p, sO_r, sO_m, sO_a, sO_c, sD_nil, sD_none, sD_guard, guardD_t, guardD_f, sE_p, sE_r, sE_m, sE_a, sE_c, evQ_some, evR_some, evM_some, evA_some, evC_some, callD_some, contD_some, consD_some, setT_some, setT_none, narrow_nil, narrow_cons, narrowC_some, seq_n, seq_ret, seq_ex, block_n, block_ret, block_ex, cond_t, cond_f, afterV_some, afterM_some, afterA_some, afterC_some, callC_some, get_t, get_c, get_setP, Tr.getP_e, argsT_nil, argsT_cons, ↓reduceIte, Nat.reduceEqDiff, Nat.reduceAdd, Nat.reduceSub, Nat.reduceMul, Nat.reduceDiv, Nat.reduceMod, Nat.zero_add, Nat.add_zero, beq_self_eq_true, Nat.zero_ne_one, Nat.one_ne_zero, Nat.reduceLeDiff, Int.reduceBEq, constF, unF, unary,  pickF, nilcF, faddrF, fldF, iaddrSF, arF, arith_lss, arith_leq, arith_gtr, arith_geq, arith_add, arith_sub, convF, extF, lenF, eqcF, eqnF, eqN, eqPtr, isNone, loadF, storeF, allocF, callF, gets, Option.map_some, Option.bind_some, add_eq, mul_eq, sub_eq, div_eq, mod_eq, nbeq, nble, asBlk_int, flat_int, cells_int, asBlk_bool, flat_bool, cells_bool, asBlk_ptr, flat_ptr, cells_ptr, asBlk_slice, flat_slice, cells_slice, asBlk_map, flat_map, cells_map, asBlk_blk, flat_blk, cells_blk, cells_agg, flat_agg, asBlk_agg, V.w, width, unc, cmpCells, eqI_eq, eqB_eq, mkI_eq, asNat_int, asNat_zero, asNat_one, undef, List.append_nil, List.nil_append, List.cons_append, nth_zero, nth_succ, resultsV, result, tup, wp_some, Bool.and_true, Bool.true_and, Bool.and_self, decide_true, decide_false, Bool.not_true, Bool.not_false, Bool.true_beq, Bool.false_beq, beq_iff_eq, reduceCtorEq, Nat.succ_eq_add_one, ptr0, Int.ofNat_eq_natCast, Int.ofNat_le, Int.ofNat_lt, Int.natCast_add, store_new, store_new65, load_set65, load_set65', load_set, List.map_cons, List.map_nil, sC_loop, Heap.next_add, Heap.next_set, boxF, buildF, fill, bsliceF, fillRows, List.replicate_one, upd_zero, put_blk, cut_blk, cut_whole, put_hit_int, put_miss_int, cut_hit_int, cut_miss_int, put_hit_bool, put_miss_bool, cut_hit_bool, cut_miss_bool, put_hit_ptr, put_miss_ptr, cut_hit_ptr, cut_miss_ptr, put_hit_slice, put_miss_slice, cut_hit_slice, cut_miss_slice, put_hit_map, put_miss_map, cut_hit_map, cut_miss_map, load_add, appF, List.length_cons, List.length_nil]
  rintro x ⟨t, HH, d⟩ ⟨rfl, rfl, q7, q8, y, hD, hF, hT⟩
  dsimp only at q7 q8 hD hF hT
  simp only [q7, q8, sC_skip, sC_reg, sC_seq, sC_cond, sC_block, sC_exit, sC_scope, sC_ret, sC_regD, sI_nil, sI_none, sI_guard, guard_t, guard_f, want_b, want_u, sO_p, sO_r, sO_m, sO_a, sO_c, sD_nil, sD_none, sD_guard, guardD_t, guardD_f, sE_p, sE_r, sE_m, sE_a, sE_c, evQ_some, evR_some, evM_some, evA_some, evC_some, callD_some, contD_some, consD_some, setT_some, setT_none, narrow_nil, narrow_cons, narrowC_some, seq_n, seq_ret, seq_ex, block_n, block_ret, block_ex, cond_t, cond_f, afterV_some, afterM_some, afterA_some, afterC_some, callC_some, get_t, get_c, get_setP, Tr.getP_e, argsT_nil, argsT_cons, ↓reduceIte, Nat.reduceEqDiff, Nat.reduceAdd, Nat.reduceSub, Nat.reduceMul, Nat.reduceDiv, Nat.reduceMod, Nat.zero_add, Nat.add_zero, beq_self_eq_true, Nat.zero_ne_one, Nat.one_ne_zero, Nat.reduceLeDiff, Int.reduceBEq, constF, unF, unary,  pickF, nilcF, faddrF, fldF, iaddrSF, arF, arith_lss, arith_leq, arith_gtr, arith_geq, arith_add, arith_sub, convF, extF, lenF, eqcF, eqnF, eqN, eqPtr, isNone, loadF, storeF, allocF, callF, gets, Option.map_some, Option.bind_some, add_eq, mul_eq, sub_eq, div_eq, mod_eq, nbeq, nble, asBlk_int, flat_int, cells_int, asBlk_bool, flat_bool, cells_bool, asBlk_ptr, flat_ptr, cells_ptr, asBlk_slice, flat_slice, cells_slice, asBlk_map, flat_map, cells_map, asBlk_blk, flat_blk, cells_blk, cells_agg, flat_agg, asBlk_agg, V.w, width, unc, cmpCells, eqI_eq, eqB_eq, mkI_eq, asNat_int, asNat_zero, asNat_one, undef, List.append_nil, List.nil_append, List.cons_append, nth_zero, nth_succ, resultsV, result, tup, wp_some, Bool.and_true, Bool.true_and, Bool.and_self, decide_true, decide_false, Bool.not_true, Bool.not_false, Bool.true_beq, Bool.false_beq, beq_iff_eq, reduceCtorEq, Nat.succ_eq_add_one, ptr0, Int.ofNat_eq_natCast, Int.ofNat_le, Int.ofNat_lt, Int.natCast_add, store_new, store_new65, load_set65, load_set65', load_set, List.map_cons, List.map_nil, sC_loop, Heap.next_add, Heap.next_set, boxF, buildF, fill, bsliceF, fillRows, List.replicate_one, upd_zero, put_blk, cut_blk, cut_whole, put_hit_int, put_miss_int, cut_hit_int, cut_miss_int, put_hit_bool, put_miss_bool, cut_hit_bool, cut_miss_bool, put_hit_ptr, put_miss_ptr, cut_hit_ptr, cut_miss_ptr, put_hit_slice, put_miss_slice, cut_hit_slice, cut_miss_slice, put_hit_map, put_miss_map, cut_hit_map, cut_miss_map, load_add, appF, List.length_cons, List.length_nil]
  exact ⟨trivial, .inr trivial, _, rfl, _, y, rfl, hD, hF, hT⟩

theorem lives_call (lf d : Nat) (H : Heap) : callS Try.prog S0 lf (d + 1) 36 [] H = some (.v (.bool true), H) := rfl

structure Kept (H : Heap) (c : Bk) (o : Am.Obj) (b : Bk) (y : Lay) (D : Dev) : Prop where
  old : H.Old c
  get : H.get c = some o
  nb : c ≠ b
  ns : c ≠ y.s
  nl : D.L ≠ [] → c ≠ y.l
theorem Kept.next {H H' : Heap} {c b : Bk} {o : Am.Obj} {y y' : Lay} {D D' : Dev} (h : Kept H c o b y D) (k : Next H b y D H' y' D') : Kept H' c o b y' D' := by
  refine ⟨h.old.mono k.turns.next, (k.turns.same c h.old ?_).trans h.get, h.nb, by rw [k.s]; exact h.ns, fun e => ?_⟩
  · rintro (rfl | rfl | ⟨hl, rfl⟩)
    · exact h.nb rfl
    · exact h.ns rfl
    · exact h.nl hl rfl
  · rcases k.l e with ⟨h1, h2⟩ | h1
    · rw [h2]; exact h.nl h1
    · rintro rfl; exact h1 h.old
theorem Kept.turns {H H' : Heap} {c b : Bk} {o : Am.Obj} {y : Lay} {D : Dev} (h : Kept H c o b y D) (k : Turns Z H H') : Kept H' c o b y D :=
  ⟨h.old.mono k.next, (k.same c h.old id).trans h.get, h.nb, h.ns, h.nl⟩
theorem load_of {H : Heap} {c : Bk} {x : Nat} (h : H.get c = some (.rows false 64 [[.blk x]])) : loadAt H ⟨c, 0⟩ 64 = some [.blk x] := by
  rw [loadAt_eq h (r := [.blk x]) rfl]; exact cut_blk _ _

theorem crashS_other : ∀ (l : List ((Nat × Nat) × Int)) (S : List Nat) (k : Nat), (∀ w ∈ l, w.1.1 ≠ k) → (crashS S l).getD k 0 = S.getD k 0
  | [], S, k, _ => rfl
  | w :: l, S, k, h => by
    refine (crashS_other l _ k (fun v hv => h v (List.mem_cons_of_mem _ hv))).trans ?_
    simp [List.getD, List.getElem?_set_ne (h w (List.mem_cons_self ..))]


end Go.Proofs.Ytcelngepfdchiaa.disk

