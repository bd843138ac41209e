import Derived.Test.YtejgheoandfikaaGreatProg
import Derived.Test.YtejgheoandfikaaGreatAmTac
set_option linter.unusedVariables false
set_option linter.unusedSimpArgs false
namespace Go.Proofs.YtejgheoandfikaaGreat.crc
open Go.Am
noncomputable def c234 : CFn := ⟨[.tmp (pp 4)],
 .seq (.reg [
 qo 4 (.p (S.get (.c (.int .u32 0)))) []]) (
 .seq (.reg [
 qo 6 (.c (callF (ff 235) [])) [],
 qo 5 (.m (allocF 16 [.int .u32 0, .int .u32 0, .int .u32 0, .int .u32 0, .int .u32 0, .int .u32 0, .int .u32 0, .int .u32 0, .int .u32 0, .int .u32 0, .int .u32 0, .int .u32 0, .int .u32 0, .int .u32 0, .int .u32 0, .int .u32 0])) [],
 qn (.a (storeF (tt 5) (tt 6) 16)) [pp 5, pp 6]]) (
 .seq (.reg [
 mv 7 0,
 mv 8 1,
 qo 9 (.p (convF .u32 (tt 8))) [pp 8],
 qo 10 (.p (arF .xor (tt 7) (tt 9))) [pp 7, pp 9],
 mv 0 10]) (
 .seq (.reg [
 mv 11 0,
 qo 12 (.p (arF .shr (tt 11) (.c (.int .u64 4)))) [pp 11],
 mv 13 0,
 qo 14 (.p (arF .and (tt 13) (.c (.int .u32 15)))) [pp 13],
 qo 15 (.p (iaddrAF (tt 5) (tt 14) 16 1)) [pp 5, pp 14],
 qo 16 (.r (loadF (tt 15) 1 .sc)) [pp 15],
 qo 17 (.p (arF .xor (tt 12) (tt 16))) [pp 12, pp 16],
 mv 0 17]) (
 .seq (.reg [
 mv 18 0,
 qo 19 (.p (arF .shr (tt 18) (.c (.int .u64 4)))) [pp 18],
 mv 20 0,
 qo 21 (.p (arF .and (tt 20) (.c (.int .u32 15)))) [pp 20],
 qo 22 (.p (iaddrAF (tt 5) (tt 21) 16 1)) [pp 5, pp 21],
 qo 23 (.r (loadF (tt 22) 1 .sc)) [pp 22],
 qo 24 (.p (arF .xor (tt 19) (tt 23))) [pp 19, pp 23],
 mv 4 24]) (
 .ret)))))⟩
theorem c234_eq : fnOf Tryz.prog 234 = some c234 := by kernel_rfl
def tabN : List Nat := [0, 274646895, 549293790, 820201905, 1098587580, 1361435347, 1640403810, 1905808397, 2197175160, 2460548119, 2722870694, 2987750089, 3280807620, 3553878443, 3811616794, 4084100981]
def tab : List V := [.int .u32 0, .int .u32 274646895, .int .u32 549293790, .int .u32 820201905, .int .u32 1098587580, .int .u32 1361435347, .int .u32 1640403810, .int .u32 1905808397, .int .u32 2197175160, .int .u32 2460548119, .int .u32 2722870694, .int .u32 2987750089, .int .u32 3280807620, .int .u32 3553878443, .int .u32 3811616794, .int .u32 4084100981]
noncomputable def at' (i : Nat) : Nat := match nth tabN i with
  | some x => x
  | none => 0
noncomputable def hi (a : Nat) : Nat := Nat.div a 16
noncomputable def lo (a : Nat) : Nat := Nat.land a 15
noncomputable def xo (a b : Nat) : Nat := Nat.xor a b
noncomputable def half (a : Nat) : Nat := xo (hi a) (at' (lo a))
noncomputable def takeN (r c : Nat) : Nat := half (half (xo r c))
theorem cut_tab : ∀ i, i < 16 → cut tab i 1 = some [.int .u32 ((at' i : Nat) : Int)]
  | 0, _ => rfl | 1, _ => rfl | 2, _ => rfl | 3, _ => rfl | 4, _ => rfl | 5, _ => rfl | 6, _ => rfl | 7, _ => rfl
  | 8, _ => rfl | 9, _ => rfl | 10, _ => rfl | 11, _ => rfl | 12, _ => rfl | 13, _ => rfl | 14, _ => rfl | 15, _ => rfl
  | n + 16, h => absurd h (by omega)
theorem at_lt : ∀ i, i < 16 → at' i < 4294967296
  | 0, _ => by decide | 1, _ => by decide | 2, _ => by decide | 3, _ => by decide | 4, _ => by decide | 5, _ => by decide | 6, _ => by decide | 7, _ => by decide
  | 8, _ => by decide | 9, _ => by decide | 10, _ => by decide | 11, _ => by decide | 12, _ => by decide | 13, _ => by decide | 14, _ => by decide | 15, _ => by decide
  | n + 16, h => absurd h (by omega)
theorem land_lt (a : Nat) : lo a < 16 := by
  have : a &&& 15 ≤ 15 := Nat.and_le_right
  exact Nat.lt_of_le_of_lt this (by decide)
theorem xor_lt {a b : Nat} (h : a < 4294967296) (k : b < 4294967296) : xo a b < 4294967296 := Nat.xor_lt_two_pow (n := 32) h k
theorem half_lt {a : Nat} (h : a < 4294967296) : half a < 4294967296 := xor_lt (Nat.lt_of_le_of_lt (Nat.div_le_self _ _) h) (at_lt _ (land_lt a))
theorem u32_wrap {n : Nat} (h : n < 4294967296) : IntKind.u32.wrap (n : Int) = n := by
  show (if false && decide ((n : Int) % (2 ^ 32 : Int) ≥ (2 ^ (32 - 1) : Int)) then (n : Int) % (2 ^ 32 : Int) - (2 ^ 32 : Int) else (n : Int) % (2 ^ 32 : Int)) = n
  rw [show (2 ^ 32 : Int) = 4294967296 from rfl]
  simp only [Bool.false_and, Bool.false_eq_true, if_false]
  omega
theorem fits_u32 {n : Nat} (h : n < 4294967296) : fitsK .u32 n = true := by
  show Nat.ble n 4294967295 = true
  rw [ble_iff]; omega
theorem xor_u32 {a b : Nat} (h : a < 4294967296) (k : b < 4294967296) : arith .xor (.int .u32 (a : Int)) (.int .u32 (b : Int)) = some (.int .u32 ((xo a b : Nat) : Int)) := by
  have e : bitI Nat.xor (fun _ a b => a ^^^ b) .u32 (a : Int) (b : Int) = ((xo a b : Nat) : Int) := by
    show (match fitsK .u32 a && fitsK .u32 b with | true => Int.ofNat (Nat.xor a b) | false => _) = _
    rw [fits_u32 h, fits_u32 k]; rfl
  show (match decide (IntKind.u32 = IntKind.u32) with | false => none | true => mkI .u32 (bitI Nat.xor (fun _ a b => a ^^^ b) .u32 (a : Int) (b : Int))) = _
  rw [e, Dh, u32_wrap (xor_lt h k)]; rfl
theorem and_u32 {a : Nat} (h : a < 4294967296) : arith .and (.int .u32 (a : Int)) (.int .u32 15) = some (.int .u32 ((lo a : Nat) : Int)) := by
  have e : bitI Nat.land (fun _ a b => a &&& b) .u32 (a : Int) 15 = ((lo a : Nat) : Int) := by
    show (match fitsK .u32 a && fitsK .u32 15 with | true => Int.ofNat (Nat.land a 15) | false => _) = _
    rw [fits_u32 h]; rfl
  show (match decide (IntKind.u32 = IntKind.u32) with | false => none | true => mkI .u32 (bitI Nat.land (fun _ a b => a &&& b) .u32 (a : Int) 15)) = _
  rw [e, Dh, u32_wrap (Nat.lt_of_lt_of_le (land_lt a) (by decide))]; rfl
theorem shr_u32 (a : Nat) : arith .shr (.int .u32 (a : Int)) (.int .u64 4) = some (.int .u32 ((hi a : Nat) : Int)) := rfl
def heapOf : Option (Rs × Heap) → Heap
  | some (_, H) => H
  | none => ⟨.e, 0, fun _ => none, []⟩
noncomputable def H13 : Heap := heapOf (callS Tryz.prog noSum 10 2 235 [] (heapA Tryz.prog fun _ => none))
theorem e213 : callS Tryz.prog noSum 10 2 235 [] (heapA Tryz.prog fun _ => none) = some (.v (.agg tab), H13) := by kernel_rfl
noncomputable def H14 : Heap := (H13.add (.rows false 16 [List.replicate 16 (.int .u32 0)])).set (.run H13.next) (.rows false 16 [tab])
theorem st14 : storeAt (H13.add (.rows false 16 [List.replicate 16 (.int .u32 0)])) ⟨.run H13.next, 0⟩ tab = some H14 := by
  have h : (H13.add (.rows false 16 [List.replicate 16 (.int .u32 0)])).get (.run H13.next) = some (.rows false 16 [List.replicate 16 (.int .u32 0)]) := by rw [Heap.get_add, if_pos rfl]
  exact storeAt_eq h (r := List.replicate 16 (.int .u32 0)) rfl (by kernel_rfl)
theorem ld14 {i : Nat} (hi : i < 16) : loadAt H14 ⟨.run H13.next, i⟩ 1 = some [.int .u32 ((at' i : Nat) : Int)] := by
  have h : H14.get (.run H13.next) = some (.rows false 16 [tab]) := by unfold H14; rw [Heap.get_set, if_pos rfl]
  rw [loadAt_eq h (r := tab) (by rw [Nat.div_eq_of_lt hi]; rfl), Nat.mod_eq_of_lt hi]
  exact cut_tab i hi
theorem rep16 : [V.int .u32 0, .int .u32 0, .int .u32 0, .int .u32 0, .int .u32 0, .int .u32 0, .int .u32 0, .int .u32 0, .int .u32 0, .int .u32 0, .int .u32 0, .int .u32 0, .int .u32 0, .int .u32 0, .int .u32 0, .int .u32 0] = List.replicate 16 (.int .u32 0) := rfl
theorem width_tab : width tab = 16 := rfl
theorem take_run {r c : Nat} (hr : r < 4294967296) (hc : c < 256) : ret (callS Tryz.prog noSum 10 3 234 [.int .u32 (r : Int), .int .u8 (c : Int)] (heapA Tryz.prog fun _ => none)) fun v H1 => v = .int .u32 ((takeN r c : Nat) : Int) ∧ QOk H1 := by
  have hc' : c < 4294967296 := by omega
  have h1 := xor_u32 hr hc'
  have hx := xor_lt hr hc'
  have h2 := and_u32 hx
  have l2 := ld14 (land_lt (xo r c))
  have lt2 := land_lt (xo r c)
  have h3 := xor_u32 (Nat.lt_of_le_of_lt (Nat.div_le_self _ _) hx : hi (xo r c) < 4294967296) (at_lt _ lt2)
  have hy := half_lt hx
  have h4 := and_u32 hy
  have l4 := ld14 (land_lt (half (xo r c)))
  have lt4 := land_lt (half (xo r c))
  have h5 := xor_u32 (Nat.lt_of_le_of_lt (Nat.div_le_self _ _) hy : hi (half (xo r c)) < 4294967296) (at_lt _ lt4)
  have hcw := u32_wrap hc'
  change _ = some (V.int .u32 ((half (xo r c) : Nat) : Int)) at h3
  change _ = some (V.int .u32 ((takeN r c : Nat) : Int)) at h5
  have hn2 : lo (xo r c) + 1 ≤ 16 := lt2
  have hn4 : lo (half (xo r c)) + 1 ≤ 16 := lt4
  have hq : QOk H14 := by
    have : H14.q = [] := by kernel_rfl
    intro p hp; rw [this] at hp; cases hp
  refine ret_call rfl c234_eq ?_
  simp only [c234, e213, st14, rep16, width_tab, h1, h2, l2, h3, h4, l4, h5, hcw, iaddrAF, shr_u32, hn2, hn4, Nat.mul_one, sy, tup, ↓reduceIte, Nat.reduceEqDiff, Nat.reduceAdd, Nat.reduceSub, Nat.reduceMul, Nat.reduceLeDiff, Int.reduceBEq, reduceCtorEq]
  simp [hq]
noncomputable def takeS : CallT := fun id args H => match Nat.beq id 234, args with
  | true, [.int .u32 (.ofNat r), .int .u8 (.ofNat c)] => match Nat.ble r 4294967295 && Nat.ble c 255 with
    | true => some (.v (.int .u32 (.ofNat (takeN r c))), H)
    | false => none
  | _, _ => none
theorem takeS_calm : NoPan takeS := by
  intro id args H v H' e
  unfold takeS at e
  split at e
  · split at e <;> cases e
  · cases e
theorem takeS_snd : CallSnd Tryz.prog takeS := by
  refine CallSndV.calm (fun id args H v H' e => ?_) takeS_calm
  unfold takeS at e
  split at e
  · rename_i r c hid
    have hid := beq_iff.1 hid
    subst hid
    split at e
    · rename_i hb
      simp only [Bool.and_eq_true, ble_iff] at hb
      cases e
      obtain ⟨v, H1, e1, rfl, hq⟩ := take_run (r := r) (c := c) (by omega) (by omega)
      exact alone_snd (noSum_snd _) e1 hq rfl rfl H
    · cases e
  · cases e
end Go.Proofs.YtejgheoandfikaaGreat.crc
