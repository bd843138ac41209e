/-
  The sum's step, as a summary: for every register and every byte.
-/
import Derived.Test.YtifmdpljcjhpfaaGreatProg
import Derived.Test.YtifmdpljcjhpfaaGreatAmSym2
set_option linter.unusedVariables false
set_option linter.unusedSimpArgs false
namespace Go.Proofs.YtifmdpljcjhpfaaGreat.crc
open Go.Am

/-- ashlar/crc.Take -/
noncomputable def c98 : CFn := ⟨[.tmp (Tr.path 4)],
 .seq (.reg [
  ⟨(some (Tr.path 4)), (some (.p (S.get (.c (.int .u32 0))))), none, []⟩]) (
 .seq (.reg [
  ⟨(some (Tr.path 6)), (some (.c (callF (.c (.func (.func 102) [] [])) []))), none, []⟩,
  ⟨(some (Tr.path 5)), (some (.m (allocF 16 [.int .u32 0, .int .u32 0, .int .u32 0, .int .u32 0, .int .u32 0, .int .u32 0, .int .u32 0, .int .u32 0, .int .u32 0, .int .u32 0, .int .u32 0, .int .u32 0, .int .u32 0, .int .u32 0, .int .u32 0, .int .u32 0]))), none, []⟩,
  ⟨none, (some (.a (storeF (.t (Tr.path 5)) (.t (Tr.path 6)) 16))), none, [Tr.path 5, Tr.path 6]⟩]) (
 .seq (.reg [
  ⟨(some (Tr.path 7)), (some (.p (S.get (.t (Tr.path 0))))), none, [Tr.path 0]⟩,
  ⟨(some (Tr.path 8)), (some (.p (S.get (.t (Tr.path 1))))), none, [Tr.path 1]⟩,
  ⟨(some (Tr.path 9)), (some (.p (convF .u32 (.t (Tr.path 8))))), none, [Tr.path 8]⟩,
  ⟨(some (Tr.path 10)), (some (.p (arF .xor (.t (Tr.path 7)) (.t (Tr.path 9))))), none, [Tr.path 7, Tr.path 9]⟩,
  ⟨(some (Tr.path 0)), (some (.p (S.get (.t (Tr.path 10))))), none, [Tr.path 10]⟩]) (
 .seq (.reg [
  ⟨(some (Tr.path 11)), (some (.p (S.get (.t (Tr.path 0))))), none, [Tr.path 0]⟩,
  ⟨(some (Tr.path 12)), (some (.p (arF .shr (.t (Tr.path 11)) (.c (.int .u64 4))))), none, [Tr.path 11]⟩,
  ⟨(some (Tr.path 13)), (some (.p (S.get (.t (Tr.path 0))))), none, [Tr.path 0]⟩,
  ⟨(some (Tr.path 14)), (some (.p (arF .and (.t (Tr.path 13)) (.c (.int .u32 15))))), none, [Tr.path 13]⟩,
  ⟨(some (Tr.path 15)), (some (.p (iaddrAF (.t (Tr.path 5)) (.t (Tr.path 14)) 16 1))), none, [Tr.path 5, Tr.path 14]⟩,
  ⟨(some (Tr.path 16)), (some (.r (loadF (.t (Tr.path 15)) 1 .sc))), none, [Tr.path 15]⟩,
  ⟨(some (Tr.path 17)), (some (.p (arF .xor (.t (Tr.path 12)) (.t (Tr.path 16))))), none, [Tr.path 12, Tr.path 16]⟩,
  ⟨(some (Tr.path 0)), (some (.p (S.get (.t (Tr.path 17))))), none, [Tr.path 17]⟩]) (
 .seq (.reg [
  ⟨(some (Tr.path 18)), (some (.p (S.get (.t (Tr.path 0))))), none, [Tr.path 0]⟩,
  ⟨(some (Tr.path 19)), (some (.p (arF .shr (.t (Tr.path 18)) (.c (.int .u64 4))))), none, [Tr.path 18]⟩,
  ⟨(some (Tr.path 20)), (some (.p (S.get (.t (Tr.path 0))))), none, [Tr.path 0]⟩,
  ⟨(some (Tr.path 21)), (some (.p (arF .and (.t (Tr.path 20)) (.c (.int .u32 15))))), none, [Tr.path 20]⟩,
  ⟨(some (Tr.path 22)), (some (.p (iaddrAF (.t (Tr.path 5)) (.t (Tr.path 21)) 16 1))), none, [Tr.path 5, Tr.path 21]⟩,
  ⟨(some (Tr.path 23)), (some (.r (loadF (.t (Tr.path 22)) 1 .sc))), none, [Tr.path 22]⟩,
  ⟨(some (Tr.path 24)), (some (.p (arF .xor (.t (Tr.path 19)) (.t (Tr.path 23))))), none, [Tr.path 19, Tr.path 23]⟩,
  ⟨(some (Tr.path 4)), (some (.p (S.get (.t (Tr.path 24))))), none, [Tr.path 24]⟩]) (
 .ret)))))⟩
theorem c98_eq : fnOf Tryz.prog 98 = some c98 := by kernel_rfl

/-- ashlar/crc.halves -/
noncomputable def c102 : CFn := ⟨[.cell (Tr.path 0) 16 .ag],
 .seq (.reg [
  ⟨(some (Tr.path 0)), (some (.m (allocF 16 [.int .u32 0, .int .u32 0, .int .u32 0, .int .u32 0, .int .u32 0, .int .u32 0, .int .u32 0, .int .u32 0, .int .u32 0, .int .u32 0, .int .u32 0, .int .u32 0, .int .u32 0, .int .u32 0, .int .u32 0, .int .u32 0]))), none, []⟩]) (
 .seq (.reg [
  ⟨(some (Tr.path 1)), (some (.p (buildF [.int .u32 0, .int .u32 0, .int .u32 0, .int .u32 0, .int .u32 0, .int .u32 0, .int .u32 0, .int .u32 0, .int .u32 0, .int .u32 0, .int .u32 0, .int .u32 0, .int .u32 0, .int .u32 0, .int .u32 0, .int .u32 0] .ag [(0, 1, (.c (.int .u32 0))), (1, 1, (.c (.int .u32 274646895))), (2, 1, (.c (.int .u32 549293790))), (3, 1, (.c (.int .u32 820201905))), (4, 1, (.c (.int .u32 1098587580))), (5, 1, (.c (.int .u32 1361435347))), (6, 1, (.c (.int .u32 1640403810))), (7, 1, (.c (.int .u32 1905808397))), (8, 1, (.c (.int .u32 2197175160))), (9, 1, (.c (.int .u32 2460548119))), (10, 1, (.c (.int .u32 2722870694))), (11, 1, (.c (.int .u32 2987750089))), (12, 1, (.c (.int .u32 3280807620))), (13, 1, (.c (.int .u32 3553878443))), (14, 1, (.c (.int .u32 3811616794))), (15, 1, (.c (.int .u32 4084100981)))]))), none, []⟩,
  ⟨none, (some (.a (storeF (.t (Tr.path 0)) (.t (Tr.path 1)) 16))), none, [Tr.path 0, Tr.path 1]⟩]) (
 .ret))⟩
theorem c102_eq : fnOf Tryz.prog 102 = some c102 := by kernel_rfl


def tabN : List Nat := [0, 274646895, 549293790, 820201905, 1098587580, 1361435347, 1640403810, 1905808397, 2197175160, 2460548119, 2722870694, 2987750089, 3280807620, 3553878443, 3811616794, 4084100981]
def tab : List V := [.int .u32 0, .int .u32 274646895, .int .u32 549293790, .int .u32 820201905, .int .u32 1098587580, .int .u32 1361435347, .int .u32 1640403810, .int .u32 1905808397, .int .u32 2197175160, .int .u32 2460548119, .int .u32 2722870694, .int .u32 2987750089, .int .u32 3280807620, .int .u32 3553878443, .int .u32 3811616794, .int .u32 4084100981]
noncomputable def at' (i : Nat) : Nat := match nth tabN i with
  | some x => x
  | none => 0
noncomputable def hi (a : Nat) : Nat := Nat.div a 16
noncomputable def lo (a : Nat) : Nat := Nat.land a 15
noncomputable def xo (a b : Nat) : Nat := Nat.xor a b
noncomputable def half (a : Nat) : Nat := xo (hi a) (at' (lo a))
noncomputable def takeN (r c : Nat) : Nat := half (half (xo r c))

theorem cut_tab : ∀ i, i < 16 → cut tab i 1 = some [.int .u32 ((at' i : Nat) : Int)]
  | 0, _ => rfl | 1, _ => rfl | 2, _ => rfl | 3, _ => rfl | 4, _ => rfl | 5, _ => rfl | 6, _ => rfl | 7, _ => rfl
  | 8, _ => rfl | 9, _ => rfl | 10, _ => rfl | 11, _ => rfl | 12, _ => rfl | 13, _ => rfl | 14, _ => rfl | 15, _ => rfl
  | n + 16, h => absurd h (by omega)
theorem at_lt : ∀ i, i < 16 → at' i < 4294967296
  | 0, _ => by decide | 1, _ => by decide | 2, _ => by decide | 3, _ => by decide | 4, _ => by decide | 5, _ => by decide | 6, _ => by decide | 7, _ => by decide
  | 8, _ => by decide | 9, _ => by decide | 10, _ => by decide | 11, _ => by decide | 12, _ => by decide | 13, _ => by decide | 14, _ => by decide | 15, _ => by decide
  | n + 16, h => absurd h (by omega)
theorem land_lt (a : Nat) : lo a < 16 := by
  have : a &&& 15 ≤ 15 := Nat.and_le_right
  exact Nat.lt_of_le_of_lt this (by decide)
theorem xor_lt {a b : Nat} (h : a < 4294967296) (k : b < 4294967296) : xo a b < 4294967296 := Nat.xor_lt_two_pow (n := 32) h k
theorem half_lt {a : Nat} (h : a < 4294967296) : half a < 4294967296 := xor_lt (Nat.lt_of_le_of_lt (Nat.div_le_self _ _) h) (at_lt _ (land_lt a))

theorem u32_wrap {n : Nat} (h : n < 4294967296) : IntKind.u32.wrap (n : Int) = n := by
  show (if false && decide ((n : Int) % (2 ^ 32 : Int) ≥ (2 ^ (32 - 1) : Int)) then (n : Int) % (2 ^ 32 : Int) - (2 ^ 32 : Int) else (n : Int) % (2 ^ 32 : Int)) = n
  rw [show (2 ^ 32 : Int) = 4294967296 from rfl]
  simp only [Bool.false_and, Bool.false_eq_true, if_false]
  omega
theorem fits_u32 {n : Nat} (h : n < 4294967296) : fitsK .u32 n = true := by
  show Nat.ble n 4294967295 = true
  rw [ble_iff]; omega
theorem xor_u32 {a b : Nat} (h : a < 4294967296) (k : b < 4294967296) : arith .xor (.int .u32 (a : Int)) (.int .u32 (b : Int)) = some (.int .u32 ((xo a b : Nat) : Int)) := by
  have e : bitI Nat.xor (fun _ a b => a ^^^ b) .u32 (a : Int) (b : Int) = ((xo a b : Nat) : Int) := by
    show (match fitsK .u32 a && fitsK .u32 b with | true => Int.ofNat (Nat.xor a b) | false => _) = _
    rw [fits_u32 h, fits_u32 k]; rfl
  show (match decide (IntKind.u32 = IntKind.u32) with | false => none | true => mkI .u32 (bitI Nat.xor (fun _ a b => a ^^^ b) .u32 (a : Int) (b : Int))) = _
  rw [e, mkI_eq, u32_wrap (xor_lt h k)]; rfl
theorem and_u32 {a : Nat} (h : a < 4294967296) : arith .and (.int .u32 (a : Int)) (.int .u32 15) = some (.int .u32 ((lo a : Nat) : Int)) := by
  have e : bitI Nat.land (fun _ a b => a &&& b) .u32 (a : Int) 15 = ((lo a : Nat) : Int) := by
    show (match fitsK .u32 a && fitsK .u32 15 with | true => Int.ofNat (Nat.land a 15) | false => _) = _
    rw [fits_u32 h]; rfl
  show (match decide (IntKind.u32 = IntKind.u32) with | false => none | true => mkI .u32 (bitI Nat.land (fun _ a b => a &&& b) .u32 (a : Int) 15)) = _
  rw [e, mkI_eq, u32_wrap (Nat.lt_of_lt_of_le (land_lt a) (by decide))]; rfl
theorem shr_u32 (a : Nat) : arith .shr (.int .u32 (a : Int)) (.int .u64 4) = some (.int .u32 ((hi a : Nat) : Int)) := rfl

def heapOf : Option (Rs × Heap) → Heap
  | some (_, H) => H
  | none => ⟨.e, 0, fun _ => none, []⟩
noncomputable def H13 : Heap := heapOf (callS Tryz.prog noSum 10 2 102 [] (heapA Tryz.prog fun _ => none))
theorem e213 : callS Tryz.prog noSum 10 2 102 [] (heapA Tryz.prog fun _ => none) = some (.v (.agg tab), H13) := by kernel_rfl

noncomputable def H14 : Heap := (H13.add (.rows false 16 [List.replicate 16 (.int .u32 0)])).set (.run H13.next) (.rows false 16 [tab])
theorem st14 : storeAt (H13.add (.rows false 16 [List.replicate 16 (.int .u32 0)])) ⟨.run H13.next, 0⟩ tab = some H14 := by
  have h : (H13.add (.rows false 16 [List.replicate 16 (.int .u32 0)])).get (.run H13.next) = some (.rows false 16 [List.replicate 16 (.int .u32 0)]) := by rw [Heap.get_add, if_pos rfl]
  exact storeAt_eq h (r := List.replicate 16 (.int .u32 0)) rfl (by kernel_rfl)
theorem ld14 {i : Nat} (hi : i < 16) : loadAt H14 ⟨.run H13.next, i⟩ 1 = some [.int .u32 ((at' i : Nat) : Int)] := by
  have h : H14.get (.run H13.next) = some (.rows false 16 [tab]) := by unfold H14; rw [Heap.get_set, if_pos rfl]
  rw [loadAt_eq h (r := tab) (by rw [Nat.div_eq_of_lt hi]; rfl), Nat.mod_eq_of_lt hi]
  exact cut_tab i hi
theorem rep16 : [V.int .u32 0, .int .u32 0, .int .u32 0, .int .u32 0, .int .u32 0, .int .u32 0, .int .u32 0, .int .u32 0, .int .u32 0, .int .u32 0, .int .u32 0, .int .u32 0, .int .u32 0, .int .u32 0, .int .u32 0, .int .u32 0] = List.replicate 16 (.int .u32 0) := rfl
theorem width_tab : width tab = 16 := rfl

theorem take_run {r c : Nat} (hr : r < 4294967296) (hc : c < 256) : ret (callS Tryz.prog noSum 10 3 98 [.int .u32 (r : Int), .int .u8 (c : Int)] (heapA Tryz.prog fun _ => none)) fun v H1 => v = .int .u32 ((takeN r c : Nat) : Int) ∧ QOk H1 := by
  have hc' : c < 4294967296 := by omega
  have h1 := xor_u32 hr hc'
  have hx := xor_lt hr hc'
  have h2 := and_u32 hx
  have l2 := ld14 (land_lt (xo r c))
  have lt2 := land_lt (xo r c)
  have h3 := xor_u32 (Nat.lt_of_le_of_lt (Nat.div_le_self _ _) hx : hi (xo r c) < 4294967296) (at_lt _ lt2)
  have hy := half_lt hx
  have h4 := and_u32 hy
  have l4 := ld14 (land_lt (half (xo r c)))
  have lt4 := land_lt (half (xo r c))
  have h5 := xor_u32 (Nat.lt_of_le_of_lt (Nat.div_le_self _ _) hy : hi (half (xo r c)) < 4294967296) (at_lt _ lt4)
  have hcw := u32_wrap hc'
  change _ = some (V.int .u32 ((half (xo r c) : Nat) : Int)) at h3
  change _ = some (V.int .u32 ((takeN r c : Nat) : Int)) at h5
  have hn2 : lo (xo r c) + 1 ≤ 16 := lt2
  have hn4 : lo (half (xo r c)) + 1 ≤ 16 := lt4
  have hq : QOk H14 := by
    have : H14.q = [] := by kernel_rfl
    intro p hp; rw [this] at hp; cases hp
  refine ret_call rfl c98_eq ?_
  simp only [c98, e213, st14, rep16, width_tab, h1, h2, l2, h3, h4, l4, h5, hcw, iaddrAF, shr_u32, hn2, hn4, Nat.mul_one, sC_skip, sC_reg, sC_seq, sC_cond, sC_block, sC_exit, sC_scope, sC_ret, sC_regD, sI_nil, sI_none, sI_guard, guard_t, guard_f, want_b, want_u, sO_p, sO_r, sO_m, sO_a, sO_c, sD_nil, sD_none, sD_guard, guardD_t, guardD_f, sE_p, sE_r, sE_m, sE_a, sE_c, evQ_some, evR_some, evM_some, evA_some, evC_some, callD_some, contD_some, consD_some, setT_some, setT_none, narrow_nil, narrow_cons, narrowC_some, seq_n, seq_ret, seq_ex, block_n, block_ret, block_ex, cond_t, cond_f, afterV_some, afterM_some, afterA_some, afterC_some, callC_some, get_t, get_c, get_setP, Tr.getP_e, argsT_nil, argsT_cons, ↓reduceIte, Nat.reduceEqDiff, Nat.reduceAdd, Nat.reduceSub, Nat.reduceMul, Nat.reduceDiv, Nat.reduceMod, Nat.zero_add, Nat.add_zero, beq_self_eq_true, Nat.zero_ne_one, Nat.one_ne_zero, Nat.reduceLeDiff, Int.reduceBEq, constF, unF, unary,  pickF, nilcF, faddrF, fldF, iaddrSF, arF, arith_lss, arith_leq, arith_gtr, arith_geq, arith_add, arith_sub, convF, extF, lenF, eqcF, eqnF, eqN, eqPtr, isNone, loadF, storeF, allocF, callF, gets, Option.map_some, Option.bind_some, add_eq, mul_eq, sub_eq, div_eq, mod_eq, nbeq, nble, asBlk_int, flat_int, cells_int, asBlk_bool, flat_bool, cells_bool, asBlk_ptr, flat_ptr, cells_ptr, asBlk_slice, flat_slice, cells_slice, asBlk_map, flat_map, cells_map, asBlk_blk, flat_blk, cells_blk, cells_agg, flat_agg, asBlk_agg, V.w, width, unc, cmpCells, eqI_eq, eqB_eq, mkI_eq, asNat_int, asNat_zero, asNat_one, undef, List.append_nil, List.nil_append, List.cons_append, nth_zero, nth_succ, resultsV, result, tup, wp_some, Bool.and_true, Bool.true_and, Bool.and_self, decide_true, decide_false, Bool.not_true, Bool.not_false, Bool.true_beq, Bool.false_beq, beq_iff_eq, reduceCtorEq, Nat.succ_eq_add_one, ptr0, Int.ofNat_eq_natCast, Int.ofNat_le, Int.ofNat_lt, Int.natCast_add, store_new, store_new65, load_set65, load_set65', load_set, List.map_cons, List.map_nil, sC_loop, Heap.next_add, Heap.next_set, boxF, buildF, fill, bsliceF, fillRows, List.replicate_one, upd_zero, put_blk, cut_blk, cut_whole, put_hit_int, put_miss_int, cut_hit_int, cut_miss_int, put_hit_bool, put_miss_bool, cut_hit_bool, cut_miss_bool, put_hit_ptr, put_miss_ptr, cut_hit_ptr, cut_miss_ptr, put_hit_slice, put_miss_slice, cut_hit_slice, cut_miss_slice, put_hit_map, put_miss_map, cut_hit_map, cut_miss_map, load_add, appF, List.length_cons, List.length_nil]
  simp [hq]

noncomputable def takeS : CallT := fun id args H => match Nat.beq id 98, args with
  | true, [.int .u32 (.ofNat r), .int .u8 (.ofNat c)] => match Nat.ble r 4294967295 && Nat.ble c 255 with
    | true => some (.v (.int .u32 (.ofNat (takeN r c))), H)
    | false => none
  | _, _ => none

theorem takeS_snd : CallSnd Tryz.prog takeS := by
  intro id args H v H' e
  unfold takeS at e
  split at e
  · rename_i r c hid
    have hid := beq_iff.1 hid
    subst hid
    split at e
    · rename_i hb
      simp only [Bool.and_eq_true, ble_iff] at hb
      cases e
      obtain ⟨v, H1, e1, rfl, hq⟩ := take_run (r := r) (c := c) (by omega) (by omega)
      exact alone_snd (noSum_snd _) e1 hq rfl rfl H
    · cases e
  · cases e

end Go.Proofs.YtifmdpljcjhpfaaGreat.crc

