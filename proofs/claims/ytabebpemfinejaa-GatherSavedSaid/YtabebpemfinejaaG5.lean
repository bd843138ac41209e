import Derived.Test.YtabebpemfinejaaG4
import Derived.Test.YtabebpemfinejaaG3
import Derived.Test.YtabebpemfinejaaG1
import Derived.Test.YtabebpemfinejaaG2
import Derived.Test.YtabebpemfinejaaAmList
import Derived.Test.YtabebpemfinejaaAmVeil4
import Derived.Test.YtabebpemfinejaaG0
import Derived.Test.YtabebpemfinejaaAmVeil5
set_option linter.unusedVariables false
set_option linter.unusedSimpArgs false
set_option maxRecDepth 10000
namespace Go.Proofs.Ytabebpemfinejaa.draft
open Go.Am
noncomputable def sumD (c : Nat → Nat) : Nat → Nat
  | 0 => 0
  | i + 1 => sumD c i + c i * 256 ^ i
theorem sumD_lt {c : Nat → Nat} : ∀ {n : Nat}, (∀ i, i < n → c i < 256) → sumD c n < 256 ^ n
  | 0, _ => by show 0 < 1; decide
  | n + 1, h => by
    have a := sumD_lt (c := c) (n := n) (fun i hi => h i (by omega))
    have b := h n (by omega)
    show sumD c n + c n * 256 ^ n < 256 ^ (n + 1)
    rw [Nat.pow_succ]
    have : c n * 256 ^ n ≤ 255 * 256 ^ n := Nat.mul_le_mul_right _ (by omega)
    omega
theorem leN_sumD {c : Nat → Nat} : ∀ {n : Nat}, (∀ i, i < n → c i < 256) → leN c n = sumD c n
  | 0, _ => rfl
  | n + 1, h => by
    have a := sumD_lt (c := c) (n := n) (fun i hi => h i (by omega))
    have ih := leN_sumD (c := c) (n := n) (fun i hi => h i (by omega))
    show leN c n ||| up (c n) n = sumD c n + c n * 256 ^ n
    rw [ih]
    unfold up
    have e : (256 : Nat) ^ n = 2 ^ (8 * n) := by rw [Nat.pow_mul]
    rw [e] at a ⊢
    rw [Nat.or_comm, Nat.mul_comm, ← Nat.two_pow_add_eq_or_of_lt a, Nat.add_comm]
theorem sumD_dig (x : Nat) : ∀ n, sumD (dig x) n = x % 256 ^ n
  | 0 => by show 0 = x % 1; omega
  | n + 1 => by
    show sumD (dig x) n + dig x n * 256 ^ n = _
    rw [sumD_dig x n, Nat.mod_pow_succ]
    unfold dig
    rw [Nat.mul_comm]
theorem leN_congr {f g : Nat → Nat} : ∀ {n : Nat}, (∀ i, i < n → f i = g i) → leN f n = leN g n
  | 0, _ => rfl
  | n + 1, h => by
    show leN f n ||| up (f n) n = leN g n ||| up (g n) n
    rw [leN_congr (fun i hi => h i (by omega)), h n (by omega)]
theorem leN_dig {x n : Nat} (hx : x < 256 ^ n) {c : Nat → Nat} (hc : ∀ i, i < n → c i = dig x i) : leN c n = x := by
  rw [leN_congr hc, leN_sumD (fun i _ => dig_lt x i), sumD_dig, Nat.mod_eq_of_lt hx]
theorem putB_dig {x n : Nat} (hx : x < 256 ^ n) : putB x n = stl (dig x) n 0 := by
  unfold putB
  rw [if_pos (Nat.div_eq_of_lt hx), digs_stl]
theorem stl_at (f : Nat → Nat) : ∀ n j i, i < n → (stl f n j)[i]? = some (f (j + i))
  | n + 1, j, 0, _ => rfl
  | n + 1, j, i + 1, h => by
    show (stl f n (j + 1))[i]? = _
    rw [stl_at f n (j + 1) i (by omega), show j + 1 + i = j + (i + 1) by omega]
theorem app_l {A B : List Nat} {a j : Nat} (hA : A.length = a) (h : j < a) : (A ++ B)[j]? = A[j]? := List.getElem?_append_left (by omega)
theorem app_r {A B : List Nat} {a j : Nat} (hA : A.length = a) : (A ++ B)[a + j]? = B[j]? := by
  rw [List.getElem?_append_right (by omega), show a + j - A.length = j by omega]
theorem app_len {A B : List Nat} {a b : Nat} (hA : A.length = a) (hB : B.length = b) : (A ++ B).length = a + b := by rw [List.length_append, hA, hB]
structure Back (N id me m s r : Nat) (S : List Nat) (c : Nat) (g : Bool) : Prop where
  hN : N < 18446744073709551616
  hN0 : N ≠ 0
  hid : id < 18446744073709551616
  hme : me < 256
  hm : m < 256
  hs : s < 65536
  hr : r < 65536
  hc : c < 65536
  hS : S.length = 16
  hS4 : ∀ i, i < 16 → S.getD i 0 < 4
theorem two_at {S : Nat → Nat} (h : ∀ i, i < 16 → S i < 4) {c : Nat → Nat} (hc : ∀ q, q < 4 → c q = outB S q) {i : Nat} (hi : i < 16) : twoB c i = S i := by
  have hq : i / 4 < 4 := by omega
  have key : outB S (i / 4) = S (4 * (i / 4)) + 4 * S (4 * (i / 4) + 1) + 16 * S (4 * (i / 4) + 2) + 64 * S (4 * (i / 4) + 3) := by
    rw [← accS_out h _ hq]
    have h4 := fun j (hj : j < 16) => h j hj
    have o := or4 _ (h4 (4 * (i / 4)) (by omega)) _ (h4 (4 * (i / 4) + 1) (by omega)) _ (h4 (4 * (i / 4) + 2) (by omega)) _ (h4 (4 * (i / 4) + 3) (by omega))
    rw [← o]
    have : i / 4 = 0 ∨ i / 4 = 1 ∨ i / 4 = 2 ∨ i / 4 = 3 := by omega
    rcases this with e | e | e | e <;> rw [e] <;> simp [accS]
  unfold twoB
  have e1 : 2 * i / 8 = i / 4 := by omega
  rw [e1, hc _ hq, key]
  have a3 : ∀ x : Nat, x &&& 3 = x % 4 := fun x => Nat.and_two_pow_sub_one_eq_mod x 2
  rw [a3]
  have ha := h (4 * (i / 4)) (by omega)
  have hb := h (4 * (i / 4) + 1) (by omega)
  have hcc := h (4 * (i / 4) + 2) (by omega)
  have hd := h (4 * (i / 4) + 3) (by omega)
  have : i = 4 * (i / 4) ∨ i = 4 * (i / 4) + 1 ∨ i = 4 * (i / 4) + 2 ∨ i = 4 * (i / 4) + 3 := by omega
  rcases this with e | e | e | e
  · rw [show 2 * i % 8 = 0 by omega, show S i = S (4 * (i / 4)) from congrArg S e]
    generalize S (4 * (i / 4)) = A at *
    generalize S (4 * (i / 4) + 1) = B at *
    generalize S (4 * (i / 4) + 2) = C at *
    generalize S (4 * (i / 4) + 3) = D at *
    omega
  · rw [show 2 * i % 8 = 2 by omega, show S i = S (4 * (i / 4) + 1) from congrArg S e]
    generalize S (4 * (i / 4)) = A at *
    generalize S (4 * (i / 4) + 1) = B at *
    generalize S (4 * (i / 4) + 2) = C at *
    generalize S (4 * (i / 4) + 3) = D at *
    omega
  · rw [show 2 * i % 8 = 4 by omega, show S i = S (4 * (i / 4) + 2) from congrArg S e]
    generalize S (4 * (i / 4)) = A at *
    generalize S (4 * (i / 4) + 1) = B at *
    generalize S (4 * (i / 4) + 2) = C at *
    generalize S (4 * (i / 4) + 3) = D at *
    omega
  · rw [show 2 * i % 8 = 6 by omega, show S i = S (4 * (i / 4) + 3) from congrArg S e]
    generalize S (4 * (i / 4)) = A at *
    generalize S (4 * (i / 4) + 1) = B at *
    generalize S (4 * (i / 4) + 2) = C at *
    generalize S (4 * (i / 4) + 3) = D at *
    omega
theorem back_ok {N id me m s r c : Nat} {S : List Nat} {g : Bool} (h : Back N id me m s r S c g) {X : Nat} (hX : X = blkOf N (bodyN id me m s r S c g)) :
    sealE X = 0 ∧ sealN X = N ∧ fld X 0 8 = id ∧ fld X 13 1 = me ∧ fld X 8 1 = m ∧ fld X 9 2 = s ∧ fld X 11 2 = r ∧ fld X 18 2 = c ∧ gSt X = S ∧ (((fld X 20 1 : Nat) : Int) == 1) = g ∧ fld X 20 1 ≤ 1 ∧ zeroTo (fun i => bc X (21 + i)) 23 ∧ X < 256 ^ 64 := by
  have p1 : (256 : Nat) ^ 1 = 256 := rfl
  have p2 : (256 : Nat) ^ 2 = 65536 := rfl
  have p8 : (256 : Nat) ^ 8 = 18446744073709551616 := by decide +kernel
  obtain ⟨hN, hN0, hid, hme, hm, hs, hr, hc, hS, hS4⟩ := h
  have l8 := stl_len (dig id) 8 0
  have lm := stl_len (dig m) 1 0
  have lss := stl_len (dig s) 2 0
  have lr := stl_len (dig r) 2 0
  have lme := stl_len (dig me) 1 0
  have lo := outs_len (fun i => S.getD i 0) 4
  have lc := stl_len (dig c) 2 0
  have hl : bodyN id me m s r S c g = ((((((stl (dig id) 8 0 ++ stl (dig m) 1 0) ++ stl (dig s) 2 0) ++ stl (dig r) 2 0) ++ stl (dig me) 1 0) ++ outs (fun i => S.getD i 0) 4) ++ stl (dig c) 2 0) ++ [if g then 1 else 0] := by
    unfold bodyN
    rw [putB_dig (by rw [p8]; exact hid), putB_dig (by rw [p1]; exact hm), putB_dig (by rw [p2]; exact hs), putB_dig (by rw [p2]; exact hr), putB_dig (by rw [p1]; exact hme), putB_dig (by rw [p2]; exact hc)]
  have k1 := app_len l8 lm
  have k2 := app_len k1 lss
  have k3 := app_len k2 lr
  have k4 := app_len k3 lme
  have k5 := app_len k4 lo
  have k6 := app_len k5 lc
  have k7 := app_len k6 (show ([if g then 1 else 0] : List Nat).length = 1 from rfl)
  obtain ⟨l, hll⟩ : ∃ l, l = bodyN id me m s r S c g := ⟨_, rfl⟩
  rw [← hll] at hl hX
  have hlen : l.length = 21 := by rw [hl]; exact k7
  have hlt : ∀ x ∈ l, x < 256 := by rw [hll]; exact bodyN_lt _ _ _ _ _ _ _ _
  have hrt := row_lt (N := N) hlt
  have hbyte : ∀ j, j < 64 → byte X j = (rowOf N l).getD j 0 := fun j hj => by
    rw [hX]
    unfold blkOf
    rw [byte_fillN (fun i => getD_lt (l := rowOf N l) hrt i), if_pos hj]
  have hh := head_len (N := N) (l := l) (by omega)
  have hd8 := stl_len (dig N) 8 0
  have hro : rowOf N l = (headOf N l ++ stl (dig (sumOf N l)) 4 0) ++ stl (dig N) 8 0 := by unfold rowOf; rw [digs_stl, digs_stl]
  have hhd : headOf N l = stl (dig N) 8 0 ++ (l ++ List.replicate (44 - l.length) 0) := by unfold headOf; rw [digs_stl]
  have ls := stl_len (dig (sumOf N l)) 4 0
  have hk := app_len hh ls
  have ob : ∀ {j x : Nat}, j < 64 → (rowOf N l)[j]? = some x → byte X j = x := fun {j x} hj hx => by
    rw [hbyte j hj, List.getD_eq_getElem?_getD, hx]; rfl
  have b0 : ∀ i, i < 8 → byte X (0 + i) = dig N i := fun i hi => ob (by omega) (by
    rw [hro, app_l hk (by omega), app_l hh (by omega), hhd, app_l hd8 (by omega), Nat.zero_add, stl_at _ _ _ _ hi, Nat.zero_add])
  have b56 : ∀ i, i < 8 → byte X (56 + i) = dig N i := fun i hi => ob (by omega) (by
    rw [hro, app_r hk, stl_at _ _ _ _ hi, Nat.zero_add])
  have b52 : ∀ i, i < 4 → byte X (52 + i) = dig (sumOf N l) i := fun i hi => ob (by omega) (by
    rw [hro, app_l hk (by omega), app_r hh, stl_at _ _ _ _ hi, Nat.zero_add])
  have bh : ∀ j, j < 52 → byte X j = (headOf N l).getD j 0 := fun j hj => by
    rw [hbyte j (by omega), List.getD_eq_getElem?_getD, List.getD_eq_getElem?_getD, hro, app_l hk (by omega), app_l hh hj]
  have bl : ∀ {j x : Nat}, j < 21 → l[j]? = some x → bc X j = x := fun {j x} hj hx => by
    show byte X (8 + j) = x
    rw [bh _ (by omega), List.getD_eq_getElem?_getD, hhd, app_r hd8, List.getElem?_append_left (by omega), hx]; rfl
  have bz : ∀ j, 21 ≤ j → j < 44 → bc X j = 0 := fun j h1 h2 => by
    show byte X (8 + j) = 0
    rw [bh _ (by omega), List.getD_eq_getElem?_getD, hhd, app_r hd8, List.getElem?_append_right (by omega), List.getElem?_replicate, if_pos (by omega)]; rfl
  have hsum : sumOf N l < 4294967296 := notN_lt (crcN_lt (fun i _ => getD_lt (head_lt hlt) i))
  have hcs : crcN (byte X) 52 = crcN (fun i => (headOf N l).getD i 0) 52 := by
    have : ∀ {f g : Nat → Nat} (m : Nat), (∀ i, i < m → f i = g i) → crcN f m = crcN g m := by
      intro f g m
      induction m with
      | zero => intro _; rfl
      | succ m ih =>
        intro hh
        show crc.takeN (crcN f m) (f m) = crc.takeN (crcN g m) (g m)
        rw [ih (fun i hi => hh i (by omega)), hh m (by omega)]
    exact this 52 bh
  have e1 : sealN X = N := leN_dig (by rw [p8]; exact hN) b0
  have e2 : leN (fun i => byte X (56 + i)) 8 = N := leN_dig (by rw [p8]; exact hN) b56
  have e3 : leN (fun i => byte X (52 + i)) 4 = sumOf N l := leN_dig (by show _ < 4294967296; exact hsum) b52
  have e4 : notN (crcN (byte X) 52) = sumOf N l := by rw [hcs]; rfl
  have hE : sealE X = 0 := by
    unfold sealE
    rw [e1, e2, e3, e4, if_neg (by intro h; rcases h with h | h; exact hN0 h; exact h rfl), if_neg (by intro h; exact h rfl)]
  have f0 : fld X 0 8 = id := leN_dig (by rw [p8]; exact hid) (fun i hi => bl (by omega) (by
    rw [hl, app_l k6 (by omega), app_l k5 (by omega), app_l k4 (by omega), app_l k3 (by omega), app_l k2 (by omega), app_l k1 (by omega), app_l l8 (by omega), Nat.zero_add, stl_at _ _ _ _ hi, Nat.zero_add]))
  have f8 : fld X 8 1 = m := leN_dig (by rw [p1]; exact hm) (fun i hi => bl (by omega) (by
    rw [hl, app_l k6 (by omega), app_l k5 (by omega), app_l k4 (by omega), app_l k3 (by omega), app_l k2 (by omega), app_l k1 (by omega), app_r l8, stl_at _ _ _ _ hi, Nat.zero_add]))
  have f9 : fld X 9 2 = s := leN_dig (by rw [p2]; exact hs) (fun i hi => bl (by omega) (by
    rw [hl, app_l k6 (by omega), app_l k5 (by omega), app_l k4 (by omega), app_l k3 (by omega), app_l k2 (by omega), app_r k1, stl_at _ _ _ _ hi, Nat.zero_add]))
  have f11 : fld X 11 2 = r := leN_dig (by rw [p2]; exact hr) (fun i hi => bl (by omega) (by
    rw [hl, app_l k6 (by omega), app_l k5 (by omega), app_l k4 (by omega), app_l k3 (by omega), app_r k2, stl_at _ _ _ _ hi, Nat.zero_add]))
  have f13 : fld X 13 1 = me := leN_dig (by rw [p1]; exact hme) (fun i hi => bl (by omega) (by
    rw [hl, app_l k6 (by omega), app_l k5 (by omega), app_l k4 (by omega), app_r k3, stl_at _ _ _ _ hi, Nat.zero_add]))
  have f18 : fld X 18 2 = c := leN_dig (by rw [p2]; exact hc) (fun i hi => bl (by omega) (by
    rw [hl, app_l k6 (by omega), app_r k5, stl_at _ _ _ _ hi, Nat.zero_add]))
  have f20 : fld X 20 1 = if g then 1 else 0 := leN_dig (by rw [p1]; split <;> omega) (fun i hi => by
    have hi0 : i = 0 := by omega
    subst hi0
    have : bc X (20 + 0) = if g then 1 else 0 := bl (by omega) (by rw [hl, app_r k6]; rfl)
    rw [this]
    cases g <;> rfl)
  have fS : gSt X = S := by
    have hst : ∀ q, q < 4 → bc X (14 + q) = outB (fun i => S.getD i 0) q := fun q hq => bl (by omega) (by
      rw [hl, app_l k6 (by omega), app_l k5 (by omega), app_r k4]
      have : outs (fun i => S.getD i 0) 4 = stl (outB fun i => S.getD i 0) 4 0 := rfl
      rw [this, stl_at _ _ _ _ hq, Nat.zero_add])
    apply List.ext_getElem?
    intro i
    by_cases hi : i < 16
    · show (stl (twoB fun i => bc X (14 + i)) 16 0)[i]? = _
      rw [stl_at _ _ _ _ hi, Nat.zero_add, two_at hS4 hst hi, getD_some (by omega)]
    · rw [List.getElem?_eq_none (by show (stl (twoB fun i => bc X (14 + i)) 16 0).length ≤ i; rw [stl_len]; omega), List.getElem?_eq_none (by omega)]
  have hXl : X < 256 ^ 64 := by rw [hX]; exact fillN_lt (fun i => getD_lt (l := rowOf N l) hrt i) 64 (Nat.le_refl _)
  refine ⟨hE, e1, f0, f13, f8, f9, f11, f18, fS, by rw [f20]; cases g <;> rfl, by rw [f20]; split <;> omega, fun i hi => bz _ (by omega) (by omega), hXl⟩
end Go.Proofs.Ytabebpemfinejaa.draft

set_option linter.unusedVariables false
set_option linter.unusedSimpArgs false
set_option maxRecDepth 10000
namespace Go.Proofs.Ytabebpemfinejaa.draft
open Go.Am
noncomputable def c10 : CFn := ⟨[.cell (pp 4) 21 .ag, .tmp (pp 5)],
 .seq (.reg [
 qo 2 (.m (boxF 21 (tt 0))) [pp 0],
 qo 4 (.m (allocF 21 [.int .i64 0, .int .i64 0, .int .i64 0, .int .u8 0, .int .u8 0, .int .u8 0, .int .u8 0, .int .u8 0, .int .u8 0, .int .u8 0, .int .u8 0, .int .u8 0, .int .u8 0, .int .u8 0, .int .u8 0, .int .u8 0, .int .u8 0, .int .u8 0, .int .u8 0, .int .i64 0, .bool false])) [],
 qo 5 (.p (S.get (.c (.bool false)))) []]) (
 .seq (.seq (.reg [
 qo 6 (.r (loadF (tt 2) 21 .ag)) [pp 2],
 qo 7 (.c (callF (ff 29) [(tt 6)])) [pp 6],
 qo 8 (.p (unF .not (tt 7))) [pp 7],
 mv 9 8,
 qg 10 (.r (loadF (tt 2) 21 .ag)) 9 false [pp 2],
 mg 11 1 9 false,
 qg 12 (.c (callF (ff 30) [(tt 10), (tt 11)])) 9 false [pp 10, pp 11],
 qg 13 (.p (unF .not (tt 12))) 9 false [pp 12],
 qo 14 (.p (pickF (tt 9) (.c (.bool true)) (tt 13))) [pp 9, pp 13],
 mv 15 14,
 mg 16 1 15 false,
 qg 17 (.p (faddrF (tt 2) 3)) 15 false [pp 2],
 qg 18 (.p (iaddrAF (tt 17) (tt 16) 16 1)) 15 false [pp 17, pp 16],
 qg 19 (.r (loadF (tt 18) 1 .sc)) 15 false [pp 18],
 qg 20 (.p (eqcF false false [.int .u8] (tt 19) (.c (.int .u8 1)))) 15 false [pp 19],
 qo 21 (.p (pickF (tt 15) (.c (.bool true)) (tt 20))) [pp 15, pp 20]]) (
 .cond (tt 21) (.seq (.reg [
 qo 22 (.r (loadF (tt 2) 21 .ag)) [pp 2],
 qn (.a (storeF (tt 4) (tt 22) 21)) [pp 4, pp 22],
 qo 5 (.p (S.get (.c (.bool false)))) []]) (
 .ret)) (.skip))) (
 .seq (.seq (.reg [
 mv 23 1,
 qo 24 (.p (faddrF (tt 2) 3)) [pp 2],
 qo 25 (.p (iaddrAF (tt 24) (tt 23) 16 1)) [pp 24, pp 23],
 qo 26 (.r (loadF (tt 25) 1 .sc)) [pp 25],
 qo 27 (.p (eqcF false false [.int .u8] (tt 26) (.c (.int .u8 2)))) [pp 26]]) (
 .cond (tt 27) (.reg [
 qo 28 (.p (faddrF (tt 2) 19)) [pp 2],
 qn (.a (storeF (tt 28) (ii 0) 1)) [pp 28]]) (.skip))) (
 .seq (.reg [
 mv 29 1,
 qo 30 (.p (faddrF (tt 2) 3)) [pp 2],
 qo 31 (.p (iaddrAF (tt 30) (tt 29) 16 1)) [pp 30, pp 29],
 qn (.a (storeF (tt 31) (.c (.int .u8 1)) 1)) [pp 31]]) (
 .seq (.reg [
 qo 32 (.r (loadF (tt 2) 21 .ag)) [pp 2],
 qn (.a (storeF (tt 4) (tt 32) 21)) [pp 4, pp 32],
 qo 5 (.p (S.get (.c (.bool true)))) []]) (
 .ret)))))⟩
theorem c10_eq : fnOf Try.prog 10 = some c10 := by kernel_rfl
noncomputable def c30 : CFn := ⟨[.tmp (pp 4)],
 .seq (.reg [
 qo 2 (.m (boxF 21 (tt 0))) [pp 0],
 qo 4 (.p (S.get (.c (.bool false)))) []]) (
 .seq (.reg [
 mv 5 1,
 qo 6 (.p (arF .geq (tt 5) (ii 0))) [pp 5],
 mv 7 6,
 mg 8 1 7 true,
 qg 9 (.p (faddrF (tt 2) 0)) 7 true [pp 2],
 qg 10 (.p (faddrF (tt 9) 0)) 7 true [pp 9],
 qg 11 (.r (loadF (tt 10) 1 .sc)) 7 true [pp 10],
 qg 12 (.p (arF .lss (tt 8) (tt 11))) 7 true [pp 8, pp 11],
 qo 13 (.p (pickF (tt 7) (tt 12) (.c (.bool false)))) [pp 7, pp 12],
 mv 4 13]) (
 .ret))⟩
theorem c30_eq : fnOf Try.prog 30 = some c30 := by kernel_rfl
theorem rmember_ok (H : Heap) {m s r c : Int} {g : Bool} {S : List Nat} (hS : S.length = 16) {i : Nat} (hi : (i : Int) < m) (lf n : Nat) : ret (callS Try.prog S0 lf (n + 1) 30 [ros m s r S c g, .int .i64 (i : Int)] H) fun v H' => v = .bool true ∧ Turns Z H H' := by
  have t1 := Turns.add Z H (.rows false 21 [rcells m s r S c g])
  have hg : (H.add (.rows false 21 [rcells m s r S c g])).get (.run H.next) = some (.rows false 21 [rcells m s r S c g]) := by rw [Heap.get_add, if_pos rfl]
  have hr : RosAt (H.add (.rows false 21 [rcells m s r S c g])) (.run H.next) m s r S c g := ⟨hg, hS⟩
  have hw := r_width hS m s r c g
  have lm := ros_m hr
  generalize hH1 : H.add (.rows false 21 [rcells m s r S c g]) = H1 at *
  have h0 : (0 : Int) ≤ (i : Int) := by omega
  refine ret_call rfl c30_eq ?_
  simp only [c30, ros, hw, hH1, lm, h0, hi, sy, tup, ↓reduceIte, Nat.reduceEqDiff, Nat.reduceAdd, Nat.reduceSub, Nat.reduceMul, Nat.reduceDiv, Nat.reduceMod, Nat.reduceLeDiff, Int.reduceBEq, reduceCtorEq]
  exact ⟨trivial, .inr trivial, _, rfl, rfl, t1⟩
theorem rlose_at (H : Heap) {m s r c : Int} {g : Bool} {S : List Nat} (hS : S.length = 16) (hf : fine m s r S c) {i : Nat} (hi : (i : Int) < m) (hiS : i < S.length) (lf n : Nat) (hlf : 17 < lf) : ret (callS Try.prog S0 lf (n + 5) 10 [ros m s r S c g, .int .i64 (i : Int)] H) fun v H' => v = .tuple [ros m s r (S.set i 1) (loseC S c i) g, .bool (!(((S[i] : Nat) : Int) == 1))] ∧ Turns Z H H' := by
  obtain ⟨bm, bs, br⟩ := may_t hf.1
  have hi16 : i < 16 := by omega
  have t1 := Turns.add Z H (.rows false 21 [rcells m s r S c g])
  have t2 := t1.addm (.rows false 21 [zro])
  have hg1 : (H.add (.rows false 21 [rcells m s r S c g])).get (.run H.next) = some (.rows false 21 [rcells m s r S c g]) := by rw [Heap.get_add, if_pos rfl]
  have hg2 : ((H.add (.rows false 21 [rcells m s r S c g])).add (.rows false 21 [zro])).get (.run H.next) = some (.rows false 21 [rcells m s r S c g]) := by
    rw [Heap.get_add, if_neg (run_ne (by simp)), hg1]
  have hg3 : ((H.add (.rows false 21 [rcells m s r S c g])).add (.rows false 21 [zro])).get (.run (H.next + 1)) = some (.rows false 21 [zro]) := by
    rw [Heap.get_add, if_pos (by simp)]
  have hn : ((H.add (.rows false 21 [rcells m s r S c g])).add (.rows false 21 [zro])).next = H.next + 2 := by simp
  have hw := r_width hS m s r c g
  generalize hH2 : (H.add (.rows false 21 [rcells m s r S c g])).add (.rows false 21 [zro]) = H2 at *
  have la := ros_all (H := H2) ⟨hg2, hS⟩
  obtain ⟨v9, H9, e9, ⟨zm, rfl, hzm⟩, t9⟩ := rosmay_ok H2 (m := m) (s := s) (r := r) (c := c) (g := g) hS lf (n + 1) hlf
  have hzm := hzm.2 hf
  subst hzm
  unfold ros at e9
  have la9 := ros_all (H := H9) ⟨(t9.same (.run H.next) (by show _ < _; omega) id).trans hg2, hS⟩
  obtain ⟨v3, H3, e3, rfl, t39⟩ := rmember_ok H9 (m := m) (s := s) (r := r) (c := c) (g := g) hS hi lf (n + 3)
  have t3 := t9.trans t39
  unfold ros at e3
  have R3 : RosAt H3 (.run H.next) m s r S c g := ⟨(t3.same (.run H.next) (by show _ < _; omega) id).trans hg2, hS⟩
  have hg33 : H3.get (.run (H.next + 1)) = some (.rows false 21 [zro]) := (t3.same (.run (H.next + 1)) (by show _ < _; omega) id).trans hg3
  have ls := ros_st R3 hi16
  have hget : S.getD i 0 = S[i] := by simp [List.getD, hiS]
  have hle : i + 1 ≤ 16 := hi16
  have hT3 : Turns Z H H3 := t2.trans t3
  have hzro : zro = [.int .i64 0, .int .i64 0, .int .i64 0, .int .u8 0, .int .u8 0, .int .u8 0, .int .u8 0, .int .u8 0, .int .u8 0, .int .u8 0, .int .u8 0, .int .u8 0, .int .u8 0, .int .u8 0, .int .u8 0, .int .u8 0, .int .u8 0, .int .u8 0, .int .u8 0, .int .i64 0, .bool false] := rfl
  rw [hzro] at hH2
  rw [Nat.mul_one] at ls
  have stS : ∀ {K : Heap} {c' : Int}, K.get (.run H.next) = some (.rows false 21 [rcells m s r S c' g]) → storeAt K ⟨.run H.next, 3 + i⟩ [.int .u8 1] = some (K.set (.run H.next) (.rows false 21 [rcells m s r (S.set i 1) c' g])) := fun {K c'} h => by
    have := storeAt_eq h (o := 3 + i) (vs := [.int .u8 1]) (r := rcells m s r S c' g) (r' := rcells m s r (S.set i 1) c' g) (by rw [Nat.div_eq_of_lt (by omega)]; rfl) (by rw [Nat.mod_eq_of_lt (by omega), put_one (r_thin m s r S c' g) (by rw [r_len hS]; omega) rfl]; exact congrArg some (rset_s hS m s r c' g hi16 1))
    rw [Nat.div_eq_of_lt (by omega)] at this
    exact this
  have fin : ∀ {K : Heap} {c' : Int}, K.get (.run H.next) = some (.rows false 21 [rcells m s r S c' g]) → K.get (.run (H.next + 1)) = some (.rows false 21 [zro]) → Turns Z H K → ∃ F, loadAt (K.set (.run H.next) (.rows false 21 [rcells m s r (S.set i 1) c' g])) ⟨.run H.next, 0⟩ 21 = some (rcells m s r (S.set i 1) c' g) ∧ storeAt (K.set (.run H.next) (.rows false 21 [rcells m s r (S.set i 1) c' g])) ⟨.run (H.next + 1), 0⟩ (rcells m s r (S.set i 1) c' g) = some F ∧ loadAt F ⟨.run (H.next + 1), 0⟩ 21 = some (rcells m s r (S.set i 1) c' g) ∧ Turns Z H F := fun {K c'} h1 h2 hT => by
    have hS' : (S.set i 1).length = 16 := by simp [hS]
    have ha : (K.set (.run H.next) (.rows false 21 [rcells m s r (S.set i 1) c' g])).get (.run (H.next + 1)) = some (.rows false 21 [zro]) := by rw [Heap.get_set, if_neg (run_ne (by omega))]; exact h2
    refine ⟨_, ros_all ⟨by rw [Heap.get_set, if_pos rfl], hS'⟩, storeAt_eq ha (r := zro) (r' := rcells m s r (S.set i 1) c' g) rfl (put_zro hS' _ _ _ _ _), ros_all ⟨by rw [Heap.get_set, if_pos rfl]; rfl, hS'⟩, (hT.setnew (Nat.le_refl _) _).setnew (by omega) _⟩
  refine ret_call rfl c10_eq ?_
  by_cases h1 : S[i] = 1
  · have b1 : (((S[i] : Nat) : Int) == 1) = true := by simp [h1]
    have hc' : loseC S c i = c := by unfold loseC; rw [hget, if_neg (by omega)]
    have hSS : S.set i 1 = S := by
      apply List.ext_getElem?
      intro j
      by_cases e : j = i
      · subst e
        rw [List.getElem?_set_self hiS, List.getElem?_eq_getElem hiS, h1]
      · rw [List.getElem?_set_ne (Ne.symm e)]
    rw [hc', hSS]
    have la3 := ros_all R3
    have sF := storeAt_eq hg33 (o := 0) (r := zro) (r' := rcells m s r S c g) (vs := rcells m s r S c g) rfl (put_zro hS _ _ _ _ _)
    have lF : loadAt (H3.set (.run (H.next + 1)) (.rows false 21 [rcells m s r S c g])) ⟨.run (H.next + 1), 0⟩ 21 = some (rcells m s r S c g) := ros_all ⟨by rw [Heap.get_set, if_pos rfl], hS⟩
    have tF : Turns Z H (H3.set (.run (H.next + 1)) (.rows false 21 [rcells m s r S c g])) := hT3.setnew (by omega) _
    have sF' : storeAt H3 ⟨.run (H.next + 1), 0⟩ (rcells m s r S c g) = some (H3.set (.run (H.next + 1)) (.rows false 21 [rcells m s r S c g])) := sF
    simp only [c10, ros, hw, hH2, la, e9, la9, e3, iaddrAF, hle, ls, b1, la3, sF', lF, Nat.mul_one, sy, tup, ↓reduceIte, Nat.reduceEqDiff, Nat.reduceAdd, Nat.reduceSub, Nat.reduceMul, Nat.reduceDiv, Nat.reduceMod, Nat.reduceLeDiff, Int.reduceBEq, reduceCtorEq]
    exact ⟨trivial, .inr trivial, _, rfl, rfl, tF⟩
  have b1 : (((S[i] : Nat) : Int) == 1) = false := by simp; omega
  by_cases h2 : S[i] = 2
  · have b2 : (((S[i] : Nat) : Int) == 2) = true := by simp [h2]
    have hc' : loseC S c i = 0 := by unfold loseC; rw [hget, if_pos h2]
    rw [hc']
    have st0 : storeAt H3 ⟨.run H.next, 19⟩ [.int .i64 0] = some (H3.set (.run H.next) (.rows false 21 [rcells m s r S 0 g])) := by
      have := storeAt_eq R3.own (o := 19) (vs := [.int .i64 0]) (r := rcells m s r S c g) (r' := rcells m s r S 0 g) rfl (by rw [put_one (r_thin m s r S c g) (by rw [r_len hS]; omega) rfl, rset_c hS])
      exact this
    have gK : (H3.set (.run H.next) (.rows false 21 [rcells m s r S 0 g])).get (.run H.next) = some (.rows false 21 [rcells m s r S 0 g]) := by rw [Heap.get_set, if_pos rfl]
    have st1 := stS gK
    obtain ⟨F, l1, s2, l2, tF⟩ := fin gK (by rw [Heap.get_set, if_neg (run_ne (by omega))]; exact hg33) (hT3.setnew (Nat.le_refl _) _)
    have hw' := r_width (S := S.set i 1) (by simp [hS]) m s r 0 g
    simp only [c10, ros, hw, hH2, la, e9, la9, e3, iaddrAF, hle, ls, b1, b2, st0, st1, l1, s2, l2, hw', Nat.mul_one, sy, tup, ↓reduceIte, Nat.reduceEqDiff, Nat.reduceAdd, Nat.reduceSub, Nat.reduceMul, Nat.reduceDiv, Nat.reduceMod, Nat.reduceLeDiff, Int.reduceBEq, reduceCtorEq]
    exact ⟨trivial, .inr trivial, _, rfl, rfl, tF⟩
  · have b2 : (((S[i] : Nat) : Int) == 2) = false := by simp; omega
    have hc' : loseC S c i = c := by unfold loseC; rw [hget, if_neg h2]
    rw [hc']
    have st1 := stS R3.own
    obtain ⟨F, l1, s2, l2, tF⟩ := fin R3.own hg33 hT3
    have hw' := r_width (S := S.set i 1) (by simp [hS]) m s r c g
    simp only [c10, ros, hw, hH2, la, e9, la9, e3, iaddrAF, hle, ls, b1, b2, st1, l1, s2, l2, hw', Nat.mul_one, sy, tup, ↓reduceIte, Nat.reduceEqDiff, Nat.reduceAdd, Nat.reduceSub, Nat.reduceMul, Nat.reduceDiv, Nat.reduceMod, Nat.reduceLeDiff, Int.reduceBEq, reduceCtorEq]
    exact ⟨trivial, .inr trivial, _, rfl, rfl, tF⟩
end Go.Proofs.Ytabebpemfinejaa.draft

set_option linter.unusedVariables false
set_option linter.unusedSimpArgs false
set_option maxRecDepth 10000
namespace Go.Proofs.Ytabebpemfinejaa.draft
open Go.Am
noncomputable def c6_l0 : C := .seq (.reg [
 qo 38 (.p (arF .lss (tt 37) (tt 36))) [pp 37, pp 36]]) (
 .seq (.cond (tt 38) (.skip) (.exit 0)) (
 .seq (.block 1 (.seq (.reg [
 mv 39 37,
 mv 10 39]) (
 .seq (.regD [
 mv 40 0,
 mv 41 10,
 qo 42 (.c (callF (ff 21) [(tt 40), (tt 41)])) [pp 40, pp 41],
 qo 43 (.p (faddrF (tt 7) 0)) [pp 7],
 qo 44 (.p (faddrF (tt 43) 1)) [pp 43],
 qo 45 (.r (loadF (tt 44) 1 .sc)) [pp 44],
 qo 46 (.p (arF .add (ii 2) (tt 45))) [pp 45],
 qo 47 (.p (arF .lss (tt 42) (tt 46))) [pp 42, pp 46]] [0, 0, 3, 0, 8, 24, 56, 127]) (
 .cond (tt 47) (.seq (.reg [
 qo 8 (.p (S.get (.c (.ptr none)))) [],
 qo 9 (.p (S.get (ii 2))) []]) (
 .ret)) (.skip))))) (
 .reg [
 qo 48 (.p (arF .add (tt 37) (ii 1))) [pp 37],
 mv 37 48])))
noncomputable def c6 : CFn := ⟨[.tmp (pp 8), .tmp (pp 9)],
 .seq (.reg [
 qo 7 (.m (boxF 21 (tt 3))) [pp 3],
 qo 8 (.p (S.get (.c (.ptr none)))) [],
 qo 9 (.p (S.get (ii 0))) []]) (
 .seq (.seq (.reg [
 mv 11 0,
 qo 12 (.c (callF (ff 19) [(tt 11)])) [pp 11],
 qo 13 (.p (eqcF false false [.int .i64] (tt 12) (ii 0))) [pp 12]]) (
 .cond (tt 13) (.seq (.reg [
 qo 8 (.p (S.get (.c (.ptr none)))) [],
 qo 9 (.p (S.get (ii 1))) []]) (
 .ret)) (.skip))) (
 .seq (.seq (.regD [
 mv 14 1,
 qo 15 (.p (eqcF false false [.int .u64] (tt 14) (.c (.int .u64 0)))) [pp 14],
 mv 16 15,
 mg 17 2 16 false,
 qg 18 (.p (arF .gtr (tt 17) (.c (.int .u64 2305843009213693952)))) 16 false [pp 17],
 qo 19 (.p (pickF (tt 16) (.c (.bool true)) (tt 18))) [pp 16, pp 18],
 mv 20 19,
 qg 21 (.r (loadF (tt 7) 21 .ag)) 20 false [pp 7],
 qg 22 (.c (callF (ff 20) [(tt 21)])) 20 false [pp 21],
 qg 23 (.p (unF .not (tt 22))) 20 false [pp 22],
 qo 24 (.p (pickF (tt 20) (.c (.bool true)) (tt 23))) [pp 20, pp 23],
 mv 25 24,
 mg 26 0 25 false,
 qg 27 (.c (callF (ff 19) [(tt 26)])) 25 false [pp 26],
 qg 28 (.p (faddrF (tt 7) 0)) 25 false [pp 7],
 qg 29 (.p (faddrF (tt 28) 0)) 25 false [pp 28],
 qg 30 (.r (loadF (tt 29) 1 .sc)) 25 false [pp 29],
 qg 31 (.p (arF .add (tt 30) (ii 1))) 25 false [pp 30],
 qg 32 (.p (eqcF true false [.int .i64] (tt 27) (tt 31))) 25 false [pp 27, pp 31],
 qo 33 (.p (pickF (tt 25) (.c (.bool true)) (tt 32))) [pp 25, pp 32]] [0, 1, 3, 7, 15, 31, 63, 127, 255, 511, 1023, 2047, 4095, 8191, 4095, 20479, 53247, 118783, 262143, 524287]) (
 .cond (tt 33) (.seq (.reg [
 qo 8 (.p (S.get (.c (.ptr none)))) [],
 qo 9 (.p (S.get (ii 2))) []]) (
 .ret)) (.skip))) (
 .seq (.seq (.reg [
 qo 34 (.p (faddrF (tt 7) 0)) [pp 7],
 qo 35 (.p (faddrF (tt 34) 0)) [pp 34],
 qo 36 (.r (loadF (tt 35) 1 .sc)) [pp 35],
 qo 37 (.p (S.get (ii 0))) []]) (
 .block 0 (.loop c6_l0))) (
 .seq (.reg [
 mv 49 0,
 mv 50 1,
 mv 51 2,
 qo 52 (.r (loadF (tt 7) 21 .ag)) [pp 7],
 qo 53 (.p (buildF [.ptr none, .int .u64 0, .int .u64 0, .int .i64 0, .int .i64 0, .int .i64 0, .int .u8 0, .int .u8 0, .int .u8 0, .int .u8 0, .int .u8 0, .int .u8 0, .int .u8 0, .int .u8 0, .int .u8 0, .int .u8 0, .int .u8 0, .int .u8 0, .int .u8 0, .int .u8 0, .int .u8 0, .int .u8 0, .int .i64 0, .bool false] .ag [(0, 1, (tt 49)), (1, 1, (tt 50)), (2, 1, (tt 51)), (3, 21, (tt 52))])) [pp 49, pp 50, pp 51, pp 52],
 qo 54 (.m (boxF 24 (tt 53))) [pp 53],
 mv 8 54,
 qo 9 (.p (S.get (ii 0))) []]) (
 .ret)))))⟩
theorem c6_eq : fnOf Try.prog 6 = some c6 := by kernel_rfl
def hok (id ev : Int) (m s r : Int) (S : List Nat) (c : Int) (n : Nat) (sec : Int → Int) : Prop := id ≠ 0 ∧ ev ≤ 2305843009213693952 ∧ fine m s r S c ∧ (n : Int) = m + 1 ∧ ∀ d, 0 ≤ d ∧ d < m → s + 2 ≤ sec d
def hcells (b : Bk) (id ev : Int) (m s r : Int) (S : List Nat) (c : Int) (g : Bool) : List V := [.ptr (some ⟨b, 0⟩), .int .u64 id, .int .u64 ev] ++ rcells m s r S c g
theorem h_thin (b : Bk) (id ev m s r : Int) (S : List Nat) (c : Int) (g : Bool) : Thin (hcells b id ev m s r S c g) := by
  intro v hv
  unfold hcells at hv
  rcases List.mem_append.1 hv with h | h
  · simp at h; rcases h with rfl | rfl | rfl <;> rfl
  · exact r_thin m s r S c g v h
theorem h_width {S : List Nat} (hS : S.length = 16) (b : Bk) (id ev m s r c : Int) (g : Bool) : width (hcells b id ev m s r S c g) = 24 := by
  rw [width_thin (h_thin b id ev m s r S c g)]
  unfold hcells
  rw [List.length_append, r_len hS]
  rfl
theorem put_h {b : Bk} {id ev m s r c : Int} {g : Bool} {S : List Nat} (hS : S.length = 16) : put [.ptr (some ⟨b, 0⟩), .int .u64 id, .int .u64 ev, .int .i64 0, .int .i64 0, .int .i64 0, .int .u8 0, .int .u8 0, .int .u8 0, .int .u8 0, .int .u8 0, .int .u8 0, .int .u8 0, .int .u8 0, .int .u8 0, .int .u8 0, .int .u8 0, .int .u8 0, .int .u8 0, .int .u8 0, .int .u8 0, .int .u8 0, .int .i64 0, .bool false] 3 (rcells m s r S c g) = some (hcells b id ev m s r S c g) := by
  match S, hS with
  | [x0, x1, x2, x3, x4, x5, x6, x7, x8, x9, x10, x11, x12, x13, x14, x15], _ => rfl
end Go.Proofs.Ytabebpemfinejaa.draft

set_option linter.unusedVariables false
set_option linter.unusedSimpArgs false
set_option maxRecDepth 10000
namespace Go.Proofs.Ytabebpemfinejaa.draft
open Go.Am
end Go.Proofs.Ytabebpemfinejaa.draft

set_option linter.unusedVariables false
set_option linter.unusedSimpArgs false
set_option maxRecDepth 10000
namespace Go.Proofs.Ytabebpemfinejaa.draft
open Go.Am
noncomputable def c24 : CFn := ⟨[.tmp (pp 2)],
 .seq (.reg [
 qo 2 (.p (S.get (.c (.bool false)))) []]) (
 .seq (.reg [
 mv 3 0,
 qo 4 (.r (eqnF false .ptr (tt 3) (.c (.ptr none)))) [pp 3],
 mv 5 4,
 mg 6 0 5 false,
 qg 7 (.p (nilcF (tt 6))) 5 false [pp 6],
 qg 8 (.p (faddrF (tt 7) 0)) 5 false [pp 7],
 qg 9 (.r (loadF (tt 8) 1 .sc)) 5 false [pp 8],
 qg 10 (.r (eqnF false .ptr (tt 9) (.c (.ptr none)))) 5 false [pp 9],
 qo 11 (.p (pickF (tt 5) (.c (.bool true)) (tt 10))) [pp 5, pp 10],
 mv 2 11]) (
 .ret))⟩
theorem c24_eq : fnOf Try.prog 24 = some c24 := by kernel_rfl
noncomputable def c14 : CFn := ⟨[.tmp (pp 2)],
 .seq (.reg [
 qo 2 (.p (S.get (.c (.int .u64 0)))) []]) (
 .seq (.seq (.reg [
 mv 3 0,
 qo 4 (.c (callF (ff 24) [(tt 3)])) [pp 3]]) (
 .cond (tt 4) (.seq (.reg [
 qo 2 (.p (S.get (.c (.int .u64 0)))) []]) (
 .ret)) (.skip))) (
 .seq (.reg [
 mv 5 0,
 qo 6 (.p (nilcF (tt 5))) [pp 5],
 qo 7 (.p (faddrF (tt 6) 2)) [pp 6],
 qo 8 (.r (loadF (tt 7) 1 .sc)) [pp 7],
 mv 2 8]) (
 .ret)))⟩
theorem c14_eq : fnOf Try.prog 14 = some c14 := by kernel_rfl
noncomputable def c9 : CFn := ⟨[.cell (pp 2) 21 .ag],
 .seq (.reg [
 qo 2 (.m (allocF 21 [.int .i64 0, .int .i64 0, .int .i64 0, .int .u8 0, .int .u8 0, .int .u8 0, .int .u8 0, .int .u8 0, .int .u8 0, .int .u8 0, .int .u8 0, .int .u8 0, .int .u8 0, .int .u8 0, .int .u8 0, .int .u8 0, .int .u8 0, .int .u8 0, .int .u8 0, .int .i64 0, .bool false])) []]) (
 .seq (.seq (.reg [
 mv 3 0,
 qo 4 (.c (callF (ff 24) [(tt 3)])) [pp 3]]) (
 .cond (tt 4) (.seq (.reg [
 qo 5 (.p (buildF [.int .i64 0, .int .i64 0, .int .i64 0, .int .u8 0, .int .u8 0, .int .u8 0, .int .u8 0, .int .u8 0, .int .u8 0, .int .u8 0, .int .u8 0, .int .u8 0, .int .u8 0, .int .u8 0, .int .u8 0, .int .u8 0, .int .u8 0, .int .u8 0, .int .u8 0, .int .i64 0, .bool false] .ag [])) [],
 qn (.a (storeF (tt 2) (tt 5) 21)) [pp 2, pp 5]]) (
 .ret)) (.skip))) (
 .seq (.reg [
 mv 6 0,
 qo 7 (.p (nilcF (tt 6))) [pp 6],
 qo 8 (.p (faddrF (tt 7) 3)) [pp 7],
 qo 9 (.r (loadF (tt 8) 21 .ag)) [pp 8],
 qn (.a (storeF (tt 2) (tt 9) 21)) [pp 2, pp 9]]) (
 .ret)))⟩
theorem c9_eq : fnOf Try.prog 9 = some c9 := by kernel_rfl
noncomputable def c15 : CFn := ⟨[.tmp (pp 4)],
 .seq (.reg [
 qo 2 (.m (boxF 21 (tt 0))) [pp 0],
 qo 3 (.m (boxF 21 (tt 1))) [pp 1],
 qo 4 (.p (S.get (.c (.bool false)))) []]) (
 .seq (.seq (.reg [
 qo 5 (.p (faddrF (tt 2) 0)) [pp 2],
 qo 6 (.p (faddrF (tt 5) 0)) [pp 5],
 qo 7 (.r (loadF (tt 6) 1 .sc)) [pp 6],
 qo 8 (.p (faddrF (tt 3) 0)) [pp 3],
 qo 9 (.p (faddrF (tt 8) 0)) [pp 8],
 qo 10 (.r (loadF (tt 9) 1 .sc)) [pp 9],
 qo 11 (.p (eqcF true false [.int .i64] (tt 7) (tt 10))) [pp 7, pp 10],
 mv 12 11,
 qg 13 (.p (faddrF (tt 2) 0)) 12 false [pp 2],
 qg 14 (.p (faddrF (tt 13) 1)) 12 false [pp 13],
 qg 15 (.r (loadF (tt 14) 1 .sc)) 12 false [pp 14],
 qg 16 (.p (faddrF (tt 3) 0)) 12 false [pp 3],
 qg 17 (.p (faddrF (tt 16) 1)) 12 false [pp 16],
 qg 18 (.r (loadF (tt 17) 1 .sc)) 12 false [pp 17],
 qg 19 (.p (eqcF true false [.int .i64] (tt 15) (tt 18))) 12 false [pp 15, pp 18],
 qo 20 (.p (pickF (tt 12) (.c (.bool true)) (tt 19))) [pp 12, pp 19],
 mv 21 20,
 qg 22 (.p (faddrF (tt 2) 0)) 21 false [pp 2],
 qg 23 (.p (faddrF (tt 22) 2)) 21 false [pp 22],
 qg 24 (.r (loadF (tt 23) 1 .sc)) 21 false [pp 23],
 qg 25 (.p (faddrF (tt 3) 0)) 21 false [pp 3],
 qg 26 (.p (faddrF (tt 25) 2)) 21 false [pp 25],
 qg 27 (.r (loadF (tt 26) 1 .sc)) 21 false [pp 26],
 qg 28 (.p (eqcF true false [.int .i64] (tt 24) (tt 27))) 21 false [pp 24, pp 27],
 qo 29 (.p (pickF (tt 21) (.c (.bool true)) (tt 28))) [pp 21, pp 28],
 mv 30 29,
 qg 31 (.p (faddrF (tt 2) 19)) 30 false [pp 2],
 qg 32 (.r (loadF (tt 31) 1 .sc)) 30 false [pp 31],
 qg 33 (.p (faddrF (tt 3) 19)) 30 false [pp 3],
 qg 34 (.r (loadF (tt 33) 1 .sc)) 30 false [pp 33],
 qg 35 (.p (eqcF true false [.int .i64] (tt 32) (tt 34))) 30 false [pp 32, pp 34],
 qo 36 (.p (pickF (tt 30) (.c (.bool true)) (tt 35))) [pp 30, pp 35],
 mv 37 36,
 qg 38 (.p (faddrF (tt 2) 20)) 37 false [pp 2],
 qg 39 (.r (loadF (tt 38) 1 .sc)) 37 false [pp 38],
 qg 40 (.p (faddrF (tt 3) 20)) 37 false [pp 3],
 qg 41 (.r (loadF (tt 40) 1 .sc)) 37 false [pp 40],
 qg 42 (.p (eqcF true false [.bool] (tt 39) (tt 41))) 37 false [pp 39, pp 41],
 qo 43 (.p (pickF (tt 37) (.c (.bool true)) (tt 42))) [pp 37, pp 42]]) (
 .cond (tt 43) (.seq (.reg [
 qo 4 (.p (S.get (.c (.bool false)))) []]) (
 .ret)) (.skip))) (
 .seq (.regD [
 qo 44 (.p (faddrF (tt 2) 3)) [pp 2],
 qo 45 (.p (sliceAF 16 1 (tt 44) none none none)) [pp 44],
 qo 46 (.p (faddrF (tt 3) 3)) [pp 3],
 qo 47 (.p (sliceAF 16 1 (tt 46) none none none)) [pp 46],
 qo 48 (.c (callF (ff 34) [(tt 45), (tt 47)])) [pp 45, pp 47],
 mv 4 48] [0, 1, 0, 4, 15, 31]) (
 .ret)))⟩
theorem c15_eq : fnOf Try.prog 15 = some c15 := by kernel_rfl
noncomputable def c34_l0 : C := .seq (.seq (.reg [
 mv 11 5,
 mv 12 0,
 qo 13 (.p (lenF (tt 12))) [pp 12],
 qo 14 (.p (arF .lss (tt 11) (tt 13))) [pp 11, pp 13]]) (
 .cond (tt 14) (.skip) (.exit 0))) (
 .seq (.block 1 (.seq (.regD [
 mv 17 0,
 mv 18 5,
 qo 19 (.p (iaddrSF (tt 17) (tt 18) 1)) [pp 17, pp 18],
 qo 20 (.r (loadF (tt 19) 1 .sc)) [pp 19],
 mv 21 1,
 mv 22 5,
 qo 23 (.p (iaddrSF (tt 21) (tt 22) 1)) [pp 21, pp 22],
 qo 24 (.r (loadF (tt 23) 1 .sc)) [pp 23],
 qo 25 (.p (eqcF true false [.int .u8] (tt 20) (tt 24))) [pp 20, pp 24]] [0, 0, 3, 7, 0, 0, 48, 112, 255]) (
 .cond (tt 25) (.seq (.reg [
 qo 4 (.p (S.get (.c (.bool false)))) []]) (
 .ret)) (.skip)))) (
 .reg [
 mv 15 5,
 qo 16 (.p (arF .add (tt 15) (ii 1))) [pp 15],
 mv 5 16]))
noncomputable def c34 : CFn := ⟨[.tmp (pp 4)],
 .seq (.reg [
 qo 4 (.p (S.get (.c (.bool false)))) []]) (
 .seq (.seq (.reg [
 mv 6 0,
 qo 7 (.p (lenF (tt 6))) [pp 6],
 mv 8 1,
 qo 9 (.p (lenF (tt 8))) [pp 8],
 qo 10 (.p (eqcF true false [.int .i64] (tt 7) (tt 9))) [pp 7, pp 9]]) (
 .cond (tt 10) (.seq (.reg [
 qo 4 (.p (S.get (.c (.bool false)))) []]) (
 .ret)) (.skip))) (
 .seq (.seq (.reg [
 qo 5 (.p (S.get (ii 0))) []]) (
 .block 0 (.loop c34_l0))) (
 .seq (.reg [
 qo 4 (.p (S.get (.c (.bool true)))) []]) (
 .ret))))⟩
theorem c34_eq : fnOf Try.prog 34 = some c34 := by kernel_rfl
structure HullAt (H : Heap) (hb b : Bk) (id ev m s r : Int) (S : List Nat) (c : Int) (g : Bool) : Prop where
  own : H.get hb = some (.rows false 24 [hcells b id ev m s r S c g])
  len : S.length = 16
  old : H.Old hb
theorem HullAt.turns {H H' : Heap} {hb b : Bk} {id ev m s r : Int} {S : List Nat} {c : Int} {g : Bool} (h : HullAt H hb b id ev m s r S c g) (k : Turns Z H H') : HullAt H' hb b id ev m s r S c g :=
  ⟨(k.same _ h.old (fun h => h)).trans h.own, h.len, h.old.mono k.next⟩
section
variable {H : Heap} {hb b : Bk} {id ev m s r : Int} {S : List Nat} {c : Int} {g : Bool} (h : HullAt H hb b id ev m s r S c g)
include h
theorem hl_cut {o n : Nat} (hn : o + n ≤ 24) (ho : o < 24) : loadAt H ⟨hb, o⟩ n = some (((hcells b id ev m s r S c g).drop o).take n) := by
  rw [loadAt_eq h.own (r := hcells b id ev m s r S c g) (nth_of (by rw [Nat.div_eq_of_lt ho]; rfl)), Nat.mod_eq_of_lt ho]
  refine cut_thin (h_thin b id ev m s r S c g) ?_
  unfold hcells
  rw [List.length_append, r_len h.len]
  exact hn
theorem hl_b : loadAt H ⟨hb, 0⟩ 1 = some [.ptr (some ⟨b, 0⟩)] := by rw [hl_cut h (by omega) (by omega)]; rfl
theorem hl_id : loadAt H ⟨hb, 1⟩ 1 = some [.int .u64 id] := by rw [hl_cut h (by omega) (by omega)]; rfl
theorem hl_ev : loadAt H ⟨hb, 2⟩ 1 = some [.int .u64 ev] := by rw [hl_cut h (by omega) (by omega)]; rfl
theorem hl_r : loadAt H ⟨hb, 3⟩ 21 = some (rcells m s r S c g) := by
  rw [hl_cut h (by omega) (by omega)]
  show some (List.take 21 (rcells m s r S c g)) = _
  rw [List.take_of_length_le (by rw [r_len h.len]; omega)]
theorem hnone (lf n : Nat) : callS Try.prog S0 lf (n + 1) 24 [.ptr (some ⟨hb, 0⟩)] H = some (.v (.bool false), H) := by
  have l := hl_b h
  obtain ⟨v, H', e, rfl, rfl⟩ : ret (callS Try.prog S0 lf (n + 1) 24 [.ptr (some ⟨hb, 0⟩)] H) fun v H' => v = .bool false ∧ H' = H := by
    refine ret_call rfl c24_eq ?_
    simp only [c24, l, sy, tup, ↓reduceIte, Nat.reduceEqDiff, Nat.reduceAdd, Nat.reduceSub, Nat.reduceMul, Nat.reduceDiv, Nat.reduceMod, Nat.reduceLeDiff, Int.reduceBEq, reduceCtorEq]
    simp
  exact e
end
def zros : List V := [.int .i64 0, .int .i64 0, .int .i64 0, .int .u8 0, .int .u8 0, .int .u8 0, .int .u8 0, .int .u8 0, .int .u8 0, .int .u8 0, .int .u8 0, .int .u8 0, .int .u8 0, .int .u8 0, .int .u8 0, .int .u8 0, .int .u8 0, .int .u8 0, .int .u8 0, .int .i64 0, .bool false]
theorem put_r {m s r c : Int} {g : Bool} {S : List Nat} (hS : S.length = 16) : put zros 0 (rcells m s r S c g) = some (rcells m s r S c g) := by
  match S, hS with
  | [x0, x1, x2, x3, x4, x5, x6, x7, x8, x9, x10, x11, x12, x13, x14, x15], _ => rfl
theorem same_ok {H : Heap} {b1 b2 : Bk} {m s r c m' s' r' c' : Int} {g g' : Bool} {S : List Nat} (h1 : RosAt H b1 m s r S c g) (h2 : RosAt H b2 m' s' r' S c' g') (lf n : Nat) (hlf : 17 < lf) : callS Try.prog S0 lf (n + 1) 34 [.slice (some ⟨b1, 3⟩) 16 16 0, .slice (some ⟨b2, 3⟩) 16 16 0] H = some (.v (.bool true), H) := by
  obtain ⟨v1, H', e, rfl, rfl⟩ : ret (callS Try.prog S0 lf (n + 1) 34 [.slice (some ⟨b1, 3⟩) 16 16 0, .slice (some ⟨b2, 3⟩) 16 16 0] H) fun v1 H' => v1 = .bool true ∧ H' = H := by
    refine ret_call rfl c34_eq ?_
    simp only [c34, sy, tup, ↓reduceIte, Nat.reduceEqDiff, Nat.reduceAdd, Nat.reduceSub, Nat.reduceMul, Nat.reduceDiv, Nat.reduceMod, Nat.reduceLeDiff, Int.reduceBEq, reduceCtorEq]
    have hloop : ∀ t : T, t.getP (Tr.path 0) = some (.slice (some ⟨b1, 3⟩) 16 16 0) → t.getP (Tr.path 1) = some (.slice (some ⟨b2, 3⟩) 16 16 0) → t.getP (Tr.path 5) = some (.int .i64 0) →
        wp (loopF (runC (callS Try.prog S0 lf n) lf c34_l0) lf ⟨t, H, []⟩) fun x s => x = .ex 0 ∧ s.d = [] ∧ s.H = H := by
      intro t q0 q1 q5
      refine wp_loopF (fun k s => ∃ i : Nat, k = 16 - i ∧ i ≤ 16 ∧ s.d = [] ∧ s.H = H ∧ s.t.getP (Tr.path 0) = some (.slice (some ⟨b1, 3⟩) 16 16 0) ∧ s.t.getP (Tr.path 1) = some (.slice (some ⟨b2, 3⟩) 16 16 0) ∧ s.t.getP (Tr.path 5) = some (.int .i64 (i : Int))) ?_ lf 16 _ ⟨0, rfl, by omega, rfl, rfl, q0, q1, q5⟩ (by omega)
      rintro k ⟨t, HH, d⟩ ⟨i, rfl, hi, hd, hH, q0, q1, q5⟩
      dsimp only at hd hH q0 q1 q5
      subst hd; subst hH
      by_cases hlt : i < 16
      · have hlt' : (i : Int) < ((16 : Nat) : Int) := by omega
        have hle' : i + 1 ≤ 16 := hlt
        have lk := ros_st h1 hlt
        have lk' := ros_st h2 hlt
        have w2 : IntKind.i64.wrap ((i : Int) + 1) = ((i + 1 : Nat) : Int) := by rw [wrap_i64 (by omega)]; omega
        simp only [c34_l0, q0, q1, q5, hlt', hle', w2, lk, lk', sy, tup, ↓reduceIte, Nat.reduceEqDiff, Nat.reduceAdd, Nat.reduceSub, Nat.reduceMul, Nat.reduceDiv, Nat.reduceMod, Nat.reduceLeDiff, Int.reduceBEq, reduceCtorEq]
        rw [endD_ok (by kernel_rfl) (by kernel_rfl)]
        simp only [q0, q1, q5, hle', w2, lk, lk', sy, tup, ↓reduceIte, Nat.reduceEqDiff, Nat.reduceAdd, Nat.reduceSub, Nat.reduceMul, Nat.reduceDiv, Nat.reduceMod, Nat.reduceLeDiff, Int.reduceBEq, reduceCtorEq]
        exact ⟨16 - (i + 1), by omega, i + 1, rfl, by omega, trivial, trivial, by simp [q0], by simp [q1], by simp⟩
      · have : i = 16 := by omega
        subst this
        have hnl : decide (((16 : Nat) : Int) < ((16 : Nat) : Int)) = false := rfl
        have hnl2 : decide (((16 : Nat) : Int) < 16) = false := rfl
        have hnl3 : decide ((16 : Int) < ((16 : Nat) : Int)) = false := rfl
        simp only [c34_l0, q0, q5, hnl, hnl2, hnl3, Nat.lt_irrefl, Int.lt_irrefl, sy, tup, ↓reduceIte, Nat.reduceEqDiff, Nat.reduceAdd, Nat.reduceSub, Nat.reduceMul, Nat.reduceDiv, Nat.reduceMod, Nat.reduceLeDiff, Int.reduceBEq, reduceCtorEq]
        exact ⟨trivial, trivial, trivial⟩
    refine wp_ctx (F := fun r => seqC _ _ _ (blockC _ r)) (hloop _ ?_ ?_ ?_) ?_
    · simp only [sy, tup, ↓reduceIte, Nat.reduceEqDiff, Nat.reduceAdd, Nat.reduceSub, Nat.reduceMul, Nat.reduceDiv, Nat.reduceMod, Nat.reduceLeDiff, Int.reduceBEq, reduceCtorEq]
    · simp only [sy, tup, ↓reduceIte, Nat.reduceEqDiff, Nat.reduceAdd, Nat.reduceSub, Nat.reduceMul, Nat.reduceDiv, Nat.reduceMod, Nat.reduceLeDiff, Int.reduceBEq, reduceCtorEq]
    · simp only [sy, tup, ↓reduceIte, Nat.reduceEqDiff, Nat.reduceAdd, Nat.reduceSub, Nat.reduceMul, Nat.reduceDiv, Nat.reduceMod, Nat.reduceLeDiff, Int.reduceBEq, reduceCtorEq]
    rintro x ⟨t, HH, d⟩ ⟨rfl, hd, hH⟩
    dsimp only at hd hH
    subst hd; subst hH
    simp only [sy, tup, ↓reduceIte, Nat.reduceEqDiff, Nat.reduceAdd, Nat.reduceSub, Nat.reduceMul, Nat.reduceDiv, Nat.reduceMod, Nat.reduceLeDiff, Int.reduceBEq, reduceCtorEq]
    simp
  exact e
theorem ros_r {H : Heap} {b : Bk} {m s r : Int} {S : List Nat} {c : Int} {g : Bool} (h : RosAt H b m s r S c g) : loadAt H ⟨b, 2⟩ 1 = some [.int .i64 r] := by rw [ros_cut h (by omega) (by omega)]; rfl
theorem ros_g {H : Heap} {b : Bk} {m s r : Int} {S : List Nat} {c : Int} {g : Bool} (h : RosAt H b m s r S c g) : loadAt H ⟨b, 20⟩ 1 = some [.bool g] := by
  rw [ros_cut h (by omega) (by omega)]
  unfold rcells
  have e : 20 = [V.int .i64 m, .int .i64 s, .int .i64 r].length + ((sts S).length + 1) := by rw [sts_len, h.len]; rfl
  rw [e, List.drop_length_add_append, List.drop_length_add_append]
  rfl
theorem rosters_ok (H : Heap) {m s r c : Int} {g : Bool} {S : List Nat} (hS : S.length = 16) (lf n : Nat) (hlf : 17 < lf) : ret (callS Try.prog S0 lf (n + 2) 15 [ros m s r S c g, ros m s r S c g] H) fun v H' => v = .bool true ∧ Turns Z H H' := by
  have t2 := (Turns.add Z H (.rows false 21 [rcells m s r S c g])).addm (.rows false 21 [rcells m s r S c g])
  have g1 : ((H.add (.rows false 21 [rcells m s r S c g])).add (.rows false 21 [rcells m s r S c g])).get (.run H.next) = some (.rows false 21 [rcells m s r S c g]) := by rw [mem_add (by simp), Heap.get_add, if_pos rfl]
  have g2 : ((H.add (.rows false 21 [rcells m s r S c g])).add (.rows false 21 [rcells m s r S c g])).get (.run (H.next + 1)) = some (.rows false 21 [rcells m s r S c g]) := by rw [Heap.get_add, if_pos (by simp)]
  generalize hH2 : (H.add (.rows false 21 [rcells m s r S c g])).add (.rows false 21 [rcells m s r S c g]) = H2 at *
  have r1 : RosAt H2 (.run H.next) m s r S c g := ⟨g1, hS⟩
  have r2 : RosAt H2 (.run (H.next + 1)) m s r S c g := ⟨g2, hS⟩
  have hw := r_width hS m s r c g
  have eS := same_ok r1 r2 lf n hlf
  have bb : bounds 16 16 none none none = some (0, 16, 16) := rfl
  refine ret_call rfl c15_eq ?_
  simp only [c15, ros, hw, hH2, ros_m r1, ros_m r2, ros_s r1, ros_s r2, ros_r r1, ros_r r2, ros_c r1, ros_c r2, ros_g r1, ros_g r2, bb, eS, sy, tup, ↓reduceIte, Nat.reduceEqDiff, Nat.reduceAdd, Nat.reduceSub, Nat.reduceMul, Nat.reduceDiv, Nat.reduceMod, Nat.reduceLeDiff, Int.reduceBEq, reduceCtorEq]
  rw [endD_ok (by kernel_rfl) (by kernel_rfl)]
  simp only [sy, tup, ↓reduceIte, Nat.reduceEqDiff, Nat.reduceAdd, Nat.reduceSub, Nat.reduceMul, Nat.reduceDiv, Nat.reduceMod, Nat.reduceLeDiff, Int.reduceBEq, reduceCtorEq]
  exact ⟨trivial, .inr trivial, _, rfl, rfl, t2⟩
end Go.Proofs.Ytabebpemfinejaa.draft

set_option linter.unusedVariables false
set_option linter.unusedSimpArgs false
set_option maxRecDepth 10000
namespace Go.Proofs.Ytabebpemfinejaa.draft
open Go.Am
noncomputable def c12_l0 : C := .seq (.seq (.reg [
 mv 5 4,
 qo 6 (.p (arF .lss (tt 5) (ii 16))) [pp 5],
 mv 7 6,
 qg 8 (.r (loadF (tt 1) 21 .ag)) 7 true [pp 1],
 qg 9 (.c (callF (ff 29) [(tt 8)])) 7 true [pp 8],
 qo 10 (.p (pickF (tt 7) (tt 9) (.c (.bool false)))) [pp 7, pp 9]]) (
 .cond (tt 10) (.skip) (.exit 0))) (
 .seq (.block 1 (.seq (.reg [
 mv 13 4,
 qo 14 (.p (faddrF (tt 1) 3)) [pp 1],
 qo 15 (.p (iaddrAF (tt 14) (tt 13) 16 1)) [pp 14, pp 13],
 qo 16 (.r (loadF (tt 15) 1 .sc)) [pp 15],
 qo 17 (.p (eqcF true false [.int .u8] (tt 16) (.c (.int .u8 0)))) [pp 16]]) (
 .cond (tt 17) (.reg [
 mv 18 3,
 qo 19 (.p (arF .add (tt 18) (ii 1))) [pp 18],
 mv 3 19]) (.skip)))) (
 .reg [
 mv 11 4,
 qo 12 (.p (arF .add (tt 11) (ii 1))) [pp 11],
 mv 4 12]))
noncomputable def c12 : CFn := ⟨[.tmp (pp 2)],
 .seq (.reg [
 qo 1 (.m (boxF 21 (tt 0))) [pp 0],
 qo 2 (.p (S.get (ii 0))) []]) (
 .seq (.reg [
 qo 3 (.p (S.get (ii 0))) []]) (
 .seq (.seq (.reg [
 qo 4 (.p (S.get (ii 0))) []]) (
 .block 0 (.loop c12_l0))) (
 .seq (.reg [
 mv 20 3,
 mv 2 20]) (
 .ret))))⟩
theorem c12_eq : fnOf Try.prog 12 = some c12 := by kernel_rfl
section
variable {m s r c : Int} {g : Bool} {S : List Nat} (hS : S.length = 16) (hf : fine m s r S c)
include hS hf
end
end Go.Proofs.Ytabebpemfinejaa.draft

set_option linter.unusedVariables false
set_option linter.unusedSimpArgs false
set_option maxRecDepth 10000
namespace Go.Proofs.Ytabebpemfinejaa.draft
open Go.Am
section
variable {m s r c : Int} {g : Bool} {S : List Nat} (hS : S.length = 16) (hf : fine m s r S c)
include hS hf
theorem rmissing_ok (H : Heap) (lf n : Nat) (hlf : 17 < lf) : ret (callS Try.prog S0 lf (n + 4) 12 [ros m s r S c g] H) fun v H' => v = .int .i64 (16 - (cnt S 0 : Int)) ∧ Turns Z H H' := by
  have t1 := Turns.add Z H (.rows false 21 [rcells m s r S c g])
  have hg : (H.add (.rows false 21 [rcells m s r S c g])).get (.run H.next) = some (.rows false 21 [rcells m s r S c g]) := by rw [Heap.get_add, if_pos rfl]
  have og : (H.add (.rows false 21 [rcells m s r S c g])).Old (.run H.next) := by show _ < _; simp
  have hr : ∀ {H' : Heap}, Turns Z (H.add (.rows false 21 [rcells m s r S c g])) H' → RosAt H' (.run H.next) m s r S c g := fun t => ⟨(t.same _ og (fun h => h)).trans hg, hS⟩
  have hw := r_width hS m s r c g
  generalize hH1 : H.add (.rows false 21 [rcells m s r S c g]) = H1 at *
  refine ret_call rfl c12_eq ?_
  simp only [c12, ros, hw, hH1, sy, tup, ↓reduceIte, Nat.reduceEqDiff, Nat.reduceAdd, Nat.reduceSub, Nat.reduceMul, Nat.reduceDiv, Nat.reduceMod, Nat.reduceLeDiff, Int.reduceBEq, reduceCtorEq]
  have hloop : ∀ t : T, t.getP (Tr.path 1) = some (.ptr (some ⟨.run H.next, 0⟩)) → t.getP (Tr.path 3) = some (.int .i64 0) → t.getP (Tr.path 4) = some (.int .i64 0) →
      wp (loopF (runC (callS Try.prog S0 lf (n + 3)) lf c12_l0) lf ⟨t, H1, []⟩) fun x' s' => x' = .ex 0 ∧ s'.d = [] ∧ Turns Z H1 s'.H ∧ s'.t.getP (Tr.path 3) = some (.int .i64 (16 - (cnt S 0 : Int))) := by
    intro t q1 q3 q4
    refine wp_loopF (fun j s' => ∃ i : Nat, j = 16 - i ∧ i ≤ 16 ∧ s'.d = [] ∧ Turns Z H1 s'.H ∧ s'.t.getP (Tr.path 1) = some (.ptr (some ⟨.run H.next, 0⟩)) ∧ s'.t.getP (Tr.path 3) = some (.int .i64 ((i : Int) - (cnt (S.take i) 0 : Int))) ∧ s'.t.getP (Tr.path 4) = some (.int .i64 (i : Int))) ?_ lf 16 _ ⟨0, rfl, by omega, rfl, Turns.refl _ _, q1, q3, q4⟩ (by omega)
    rintro j ⟨t, HH, d⟩ ⟨i, rfl, hi, hd, tz, q1, q3, q4⟩
    dsimp only at hd tz q1 q3 q4
    subst hd
    by_cases hlt : i < 16
    · have hlt' : (i : Int) < 16 := by omega
      have hle' : i + 1 ≤ 16 := hlt
      have hiS : i < S.length := by omega
      have aH := ros_all (hr tz)
      obtain ⟨v, H2, e2, ⟨z, rfl, hz⟩, t2⟩ := rosmay_ok HH (m := m) (s := s) (r := r) (c := c) (g := g) hS lf n hlf
      obtain rfl : z = true := hz.2 hf
      unfold ros at e2
      have tz2 := tz.trans t2
      have lx := ros_st (hr tz2) hlt
      have hn := cnt_le (S.take i) 0
      rw [List.length_take] at hn
      have hk := cnt_take (x := 0) hiS
      have w1 : IntKind.i64.wrap ((i : Int) + 1) = ((i + 1 : Nat) : Int) := by rw [wrap_i64 (by omega)]; omega
      have w2 : IntKind.i64.wrap ((i : Int) - (cnt (S.take i) 0 : Int) + 1) = (i : Int) - (cnt (S.take i) 0 : Int) + 1 := wrap_i64 (by omega)
      by_cases e : S[i] = 0
      · have hb : (((S[i] : Nat) : Int) == 0) = true := by simp [e]
        rw [if_pos e] at hk
        simp only [c12_l0, q1, q3, q4, hlt', hle', aH, e2, lx, hb, w1, sy, tup, ↓reduceIte, Nat.reduceEqDiff, Nat.reduceAdd, Nat.reduceSub, Nat.reduceMul, Nat.reduceDiv, Nat.reduceMod, Nat.reduceLeDiff, Int.reduceBEq, reduceCtorEq]
        exact ⟨16 - (i + 1), by omega, i + 1, rfl, by omega, trivial, tz2, by simp [q1], by simp [q3, hk]; omega, by simp⟩
      · have hb : (((S[i] : Nat) : Int) == 0) = false := by simp; omega
        rw [if_neg e, Nat.add_zero] at hk
        simp only [c12_l0, q1, q3, q4, hlt', hle', aH, e2, lx, hb, w1, w2, sy, tup, ↓reduceIte, Nat.reduceEqDiff, Nat.reduceAdd, Nat.reduceSub, Nat.reduceMul, Nat.reduceDiv, Nat.reduceMod, Nat.reduceLeDiff, Int.reduceBEq, reduceCtorEq]
        exact ⟨16 - (i + 1), by omega, i + 1, rfl, by omega, trivial, tz2, by simp [q1], by simp [hk]; omega, by simp⟩
    · have : i = 16 := by omega
      subst this
      have hnl : decide (((16 : Nat) : Int) < 16) = false := rfl
      rw [List.take_of_length_le (by omega)] at q3
      simp only [c12_l0, q1, q3, q4, hnl, sy, tup, ↓reduceIte, Nat.reduceEqDiff, Nat.reduceAdd, Nat.reduceSub, Nat.reduceMul, Nat.reduceDiv, Nat.reduceMod, Nat.reduceLeDiff, Int.reduceBEq, reduceCtorEq]
      exact ⟨trivial, trivial, tz, by first | trivial | exact q3 | simp⟩
  refine wp_ctx (F := fun r => seqC _ _ _ (blockC _ r)) (hloop _ ?_ ?_ ?_) ?_
  · simp only [sy, tup, ↓reduceIte, Nat.reduceEqDiff, Nat.reduceAdd, Nat.reduceSub, Nat.reduceMul, Nat.reduceDiv, Nat.reduceMod, Nat.reduceLeDiff, Int.reduceBEq, reduceCtorEq]
  · simp only [sy, tup, ↓reduceIte, Nat.reduceEqDiff, Nat.reduceAdd, Nat.reduceSub, Nat.reduceMul, Nat.reduceDiv, Nat.reduceMod, Nat.reduceLeDiff, Int.reduceBEq, reduceCtorEq]
  · simp only [sy, tup, ↓reduceIte, Nat.reduceEqDiff, Nat.reduceAdd, Nat.reduceSub, Nat.reduceMul, Nat.reduceDiv, Nat.reduceMod, Nat.reduceLeDiff, Int.reduceBEq, reduceCtorEq]
  rintro x' ⟨t, HH, d⟩ ⟨rfl, hd, tz, q3⟩
  dsimp only at hd tz q3
  subst hd
  simp only [q3, sy, tup, ↓reduceIte, Nat.reduceEqDiff, Nat.reduceAdd, Nat.reduceSub, Nat.reduceMul, Nat.reduceDiv, Nat.reduceMod, Nat.reduceLeDiff, Int.reduceBEq, reduceCtorEq]
  exact ⟨trivial, .inr trivial, _, rfl, rfl, t1.trans tz⟩
end
end Go.Proofs.Ytabebpemfinejaa.draft

set_option linter.unusedVariables false
set_option linter.unusedSimpArgs false
set_option maxRecDepth 10000
namespace Go.Proofs.Ytabebpemfinejaa.disk
open Go.Am
structure Same (B C : Bn) : Prop where
  len : C.l.length = B.l.length
  sec : ∀ d, C.sectors d = B.sectors d
  dk : B.ar = 0 → B.dk = false → C.ar = 0 ∧ C.dk = false
theorem Same.trans {A B C : Bn} (h : Same A B) (k : Same B C) : Same A C := ⟨k.len.trans h.len, fun d => (k.sec d).trans (h.sec d), fun a b => k.dk (h.dk a b).1 (h.dk a b).2⟩
theorem Same.refl (B : Bn) : Same B B := ⟨rfl, fun _ => rfl, fun a b => ⟨a, b⟩⟩
end Go.Proofs.Ytabebpemfinejaa.disk
namespace Go.Proofs.Ytabebpemfinejaa.draft
open Go.Am
def sizes (k : Nat) : List Int := List.replicate k 6 ++ [50]
def rowsI (l : List Int) : List (List V) := l.map fun n : Int => [V.int .i64 n]
theorem rowsI_len (l : List Int) : (rowsI l).length = l.length := by unfold rowsI; simp
theorem appI {H1 HH : Heap} {ks : List Int} {y : V} (hy : Lst H1 HH 1 (rowsI ks) y) (tz : Turns Z H1 HH) (hl : ks.length ≤ 16) (u : Int) : ∃ H', appendV 1 8 (HH.add (.rows false 1 [[.int .i64 u]])) y (.slice (some ⟨.run HH.next, 0⟩) 1 1 0) = some (.slice (some ⟨.run (HH.next + 1), 0⟩) (ks.length + 1) (ks.length + 1) 1, H') ∧ Lst H1 H' 1 (rowsI (ks ++ [u])) (.slice (some ⟨.run (HH.next + 1), 0⟩) (ks.length + 1) (ks.length + 1) 1) ∧ Turns Z H1 H' := by
  have ta := Turns.add Z HH (.rows false 1 [[.int .i64 u]])
  have hxg : (HH.add (.rows false 1 [[.int .i64 u]])).get (.run HH.next) = some (.rows false 1 [[.int .i64 u]]) := by rw [Heap.get_add, if_pos rfl]
  have hya := hy.turns ta (fun _ _ => id)
  have hl' := rowsI_len ks
  obtain ⟨H', ea, hv', ta', _⟩ := hya.app1 (by' := 8) (Nat.le_trans tz.next ta.next) hxg rfl (by decide) (by rw [hl']; omega) (by rw [hl']; omega)
  rw [hl', Heap.next_add] at ea hv'
  have hR : rowsI ks ++ [[.int .i64 u]] = rowsI (ks ++ [u]) := by unfold rowsI; simp
  rw [hR] at hv'
  exact ⟨H', ea, hv', lst_away hya (tz.trans ta) (Nat.le_refl _) ta'⟩
theorem picks_lst {H0 H : Heap} {P : List Int} {v : V} (h : Lst H0 H 1 (rowsI P) v) (hP : P ≠ []) : ∃ p, v = .slice p P.length P.length 1 ∧ disk.PicksAt H p P disk.Z := by
  rcases h with ⟨e, _⟩ | ⟨k, _, rfl, hg, h1, h2⟩
  · cases P with
    | nil => exact absurd rfl hP
    | cons => cases e
  · rw [rowsI_len]
    refine ⟨_, rfl, ⟨fun _ => ⟨.run k, 0, false, _, rfl, h2, fun h => h, hg, fun i hi => ?_⟩⟩⟩
    unfold rowsI
    rw [Nat.zero_add, List.getElem?_map, List.getElem?_eq_getElem hi]; rfl
end Go.Proofs.Ytabebpemfinejaa.draft

set_option linter.unusedVariables false
set_option linter.unusedSectionVars false
set_option linter.unusedSimpArgs false
set_option maxRecDepth 10000
namespace Go.Proofs.Ytabebpemfinejaa.disk
open Go.Am
open Classical in
noncomputable def pick {α : Type} (p : α → Prop) : Option α := if h : ∃ x, p x then some (Classical.choose h) else none
theorem pick_some {α : Type} {p : α → Prop} {x : α} (h : pick p = some x) : p x := by
  unfold pick at h
  split at h
  · rename_i hx; cases h; exact Classical.choose_spec hx
  · cases h
theorem pick_eq {α : Type} {p : α → Prop} {x : α} (h : p x) (u : ∀ y, p y → y = x) : pick p = some x := by
  unfold pick
  rw [dif_pos ⟨x, h⟩]
  exact congrArg some (u _ (Classical.choose_spec ⟨x, h⟩))
def encDev (D : Dev) : V := .tuple [.tuple (D.S.map .blk), .tuple (D.L.map fun w => .tuple [.int .i64 w.1, .blk w.2]), .bool D.dead]
def encB (r : Bool) (B : Bn) : V := .tuple [.bool r, .tuple (B.l.map encDev), .int .i64 B.st, .int .i64 B.ar, .bool B.dk]
theorem map_inj {α β : Type} {f : α → β} (hf : ∀ x y, f x = f y → x = y) : ∀ {l l' : List α}, l.map f = l'.map f → l = l'
  | [], [], _ => rfl
  | a :: l, b :: l', h => by
    simp only [List.map_cons, List.cons.injEq] at h
    rw [hf _ _ h.1, map_inj hf h.2]
  | [], _ :: _, h => by simp at h
  | _ :: _, [], h => by simp at h
theorem encDev_inj (D D' : Dev) (h : encDev D = encDev D') : D = D' := by
  obtain ⟨S, L, d⟩ := D
  obtain ⟨S', L', d'⟩ := D'
  simp only [encDev, V.tuple.injEq, List.cons.injEq, V.bool.injEq, and_true] at h
  obtain ⟨h1, h2, h3⟩ := h
  have e1 := map_inj (fun x y h => V.blk.inj h) h1
  have e2 := map_inj (fun x y h => by
    simp only [V.tuple.injEq, List.cons.injEq, V.int.injEq, V.blk.injEq, true_and, and_true] at h
    exact Prod.ext (by omega) h.2) h2
  rw [e1, e2, h3]
theorem encB_inj {r r' : Bool} {B B' : Bn} (h : encB r B = encB r' B') : r = r' ∧ B = B' := by
  obtain ⟨l, st, ar, dk⟩ := B
  obtain ⟨l', st', ar', dk'⟩ := B'
  simp only [encB, V.tuple.injEq, List.cons.injEq, V.bool.injEq, V.int.injEq, true_and, and_true] at h
  obtain ⟨h0, h1, h2, h3, h4⟩ := h
  exact ⟨h0, by rw [map_inj encDev_inj h1, h2, h3, h4]⟩
def bx (r : Bool) (B : Bn) : Am.Obj := .box (encB r B)
theorem bx_inj {r r' : Bool} {B B' : Bn} (h : some (bx r B) = some (bx r' B')) : r = r' ∧ B = B' := encB_inj (by simpa [bx] using h)
def A1 (v : V) : Prop := ∃ r B, v = encB r B
def R1 : RepT := fun v H b F => ∃ r B ds so l, v = encB r B ∧ Rep r H b ds so l B ∧ F = BFoot b ds l
theorem DevAt.regq {H H' : Heap} (hn : H'.next = H.next) (hg : H'.get = H.get) {b : Bk} {y : Lay} {D : Dev} (h : DevAt H b y D) : DevAt H' b y D :=
  ⟨by rw [hg]; exact h.own, by rw [hg]; exact h.sure, h.nil, fun e => by rw [hg]; exact h.loose e, ⟨(Heap.old_iff hn b).2 h.old.1, (Heap.old_iff hn _).2 h.old.2.1, fun e => (Heap.old_iff hn _).2 (h.old.2.2 e)⟩, h.ne⟩
theorem DvsAt.regq {H H' : Heap} (hn : H'.next = H.next) (hg : H'.get = H.get) {b ds : Bk} {so : Nat} {l : List Dv} {r1 r2 r3 : V} (h : DvsAt H b ds so l r1 r2 r3) : DvsAt H' b ds so l r1 r2 r3 :=
  ⟨by rw [hg]; exact h.own, by rw [hg]; exact h.ptrs, fun i hi => (h.dev i hi).regq hn hg, h.sep, ⟨(Heap.old_iff hn b).2 h.old.1, (Heap.old_iff hn _).2 h.old.2⟩, h.ne, h.out⟩
theorem ok1 : RepOk A1 R1 := by
  refine ⟨?_, ?_, ?_⟩
  · rintro v H b F _ ⟨r, B, ds, so, l, _, _, rfl⟩
    exact .inl rfl
  · rintro v H b F c _ ⟨r, B, ds, so, l, _, h, rfl⟩ hc
    exact h.foot_old c hc
  · rintro v H H' b F _ ⟨r, B, ds, so, l, rfl, h, rfl⟩ hs hn
    refine ⟨r, B, ds, so, l, rfl, ?_, rfl⟩
    have h0 : Rep r ⟨H.m, H.next, H.a, [(none, some Am.undef)]⟩ b ds so l B := ⟨DvsAt.regq (H := H) (H' := ⟨H.m, H.next, H.a, [(none, some Am.undef)]⟩) rfl (by funext c; cases c <;> rfl) h.row, h.map⟩
    refine h0.turnsX (X := fun c => ¬ BFoot b ds l c) ⟨hn, fun c _ hc => ?_, fun q => ?_⟩ (fun c hc hn => hn hc)
    · have hc : BFoot b ds l c := Classical.byContradiction hc
      rw [hs c hc]
      cases c <;> rfl
    · have := q (none, some Am.undef) (List.mem_cons_self ..)
      cases this
structure Fit (B : Bn) : Prop where
  ne : B.l ≠ []
  le : B.l.length ≤ 17
  good : ∀ D ∈ B.l, Good D
  ar : 0 ≤ B.ar ∧ B.ar ≤ 9223372036854775807
  st : 0 ≤ B.st ∧ B.st ≤ 100000
theorem Bok.fit {k : Nat} {B : Bn} (h : Bok k B) (hk : k ≤ 900) (ne : B.l ≠ []) (le : B.l.length ≤ 17) : Fit B := ⟨ne, le, h.good hk, h.ar, by have := h.st; omega⟩
abbrev Rel := List V → Heap → Rs × Heap → Prop
noncomputable def relRow (p : Rel) : List V → Heap → Option (Rs × Heap) := fun args G => pick (p args G)
noncomputable abbrev Low (lf D : Nat) : CallT := callS Try.prog S0 lf D
section
variable {r : Bool} {G H : Heap} (u : Under A1 R1 G H) {b : Bk} {B : Bn}
include u
theorem opened (h : G.get b = some (bx r B)) : ∃ F ds so l, Cov A1 R1 F G H ∧ Rep r H b ds so l B ∧ F b = BFoot b ds l := by
  obtain ⟨F, c⟩ := u.ex
  obtain ⟨r', B', ds, so, l, e, hR, hF⟩ := c.abs b _ h ⟨r, B, rfl⟩
  obtain ⟨rfl, rfl⟩ := encB_inj e
  exact ⟨F, ds, so, l, c, hR, hF⟩
theorem asked (K : Nat) {H1 : Heap} (t : Turns Z H H1) (hK : H1.next ≤ H.next + K) : Under A1 R1 (G.skip K) (H1.pad (H.next + K)) := u.pure ok1 t hK
theorem turned {F : Bk → Bk → Prop} {ds : Bk} {so : Nat} {l l' : List Dv} {B' : Bn} {H1 : Heap} (c : Cov A1 R1 F G H) (h : G.get b = some (bx r B)) (hF : F b = BFoot b ds l) (k : RNext r H b ds so l H1 l' B') (K : Nat) (hK : H1.next ≤ H.next + K) : Under A1 R1 ((G.set b (bx r B')).skip K) (H1.pad (H.next + K)) :=
  u.op ok1 c h ⟨r, B, rfl⟩ ⟨r, B', rfl⟩ (F' := BFoot b ds l') ⟨r, B', ds, so, l', rfl, k.rep, rfl⟩ (fun d hd => by rw [hF]; exact k.foot d hd) (by rw [hF]; exact k.turns) hK
theorem made {P : List Int} {ds : Bk} {l : List Dv} {H1 : Heap} (hR : Rep r H1 (.run H.next) ds 1 l (newB P)) (hN : ∀ c, BFoot (.run H.next) ds l c → ¬ H.Old c) (t : Turns Z H H1) (K : Nat) (hK : H1.next ≤ H.next + K) (hK1 : 1 ≤ K) : Under A1 R1 ((G.add (bx r (newB P))).skip (K - 1)) (H1.pad (H.next + K)) :=
  u.made ok1 ⟨r, newB P, rfl⟩ (F' := BFoot (.run H.next) ds l) ⟨r, newB P, ds, 1, l, rfl, hR, rfl⟩ hN t hK hK1
theorem picks_low {pp : Option Ptr} {P : List Int} (h : PicksAt G pp P Z) : PicksAt H pp P Z := ⟨fun e => by
  obtain ⟨x, ox, ro, rows, h1, h2, h3, h4, h5⟩ := h.has e
  exact ⟨x, ox, ro, rows, h1, (Heap.old_iff u.next x).1 h2, h3, u.con h4 (veil_rows _ _ _), h5⟩⟩
end
theorem picks_uniq {G : Heap} {pp : Option Ptr} {P P' : List Int} (h : PicksAt G pp P Z) (h' : PicksAt G pp P' Z) (hl : P.length = P'.length) : P = P' := by
  apply List.ext_getElem hl
  intro i h1 h2
  obtain ⟨x, ox, ro, rows, e1, _, _, e4, e5⟩ := h.has (fun e => by rw [e] at h1; simp at h1)
  obtain ⟨x', ox', ro', rows', e1', _, _, e4', e5'⟩ := h'.has (fun e => by rw [e] at h2; simp at h2)
  rw [e1] at e1'; cases e1'
  rw [e4] at e4'; cases e4'
  have := (e5 i h1).symm.trans (e5' i h2)
  simpa using this
def wRead (K : Nat) : Rel := fun args G r => ∃ (b : Bk) (d : Int) (n : Int) (B : Bn), args = [.ptr (some ⟨b, 0⟩), .int .i64 d, .int .i64 n] ∧ G.get b = some (bx false B) ∧ Fit B ∧ r = (.v (.tuple [.blk (B.read d n), .int .i64 (B.rc d n)]), G.skip K)
theorem tRead {lf : Nat} (hlf : 1000 < lf) (D K : Nat) : RowTold A1 R1 (Low lf (D + 4)) K (49, relRow (wRead K)) := by
  intro args G r G' h H u
  obtain ⟨b, d, n, B, rfl, hb, hf, e⟩ := pick_some h
  cases e
  obtain ⟨F, ds, so, l, c, hR, hF⟩ := opened u hb
  have hl : l ≠ [] := fun e => hf.ne (List.length_eq_zero_iff.1 (by rw [← hR.len, e]; rfl))
  obtain ⟨v, H1, e1, rfl, t⟩ := bread_all hR hl hf.good d n hlf D
  exact ⟨_, H1, rfl, e1, fun hK => asked u K t hK⟩
theorem uRead {K : Nat} {G : Heap} {b : Bk} {B : Bn} (hb : G.get b = some (bx false B)) (hf : Fit B) (d : Int) (n : Int) : relRow (wRead K) [.ptr (some ⟨b, 0⟩), .int .i64 d, .int .i64 n] G = some (.v (.tuple [.blk (B.read d n), .int .i64 (B.rc d n)]), G.skip K) :=
  pick_eq ⟨b, d, n, B, rfl, hb, hf, rfl⟩ (by
    rintro q ⟨b', d', n', B', ha, hb', _, rfl⟩
    cases ha
    rw [hb] at hb'
    obtain ⟨_, rfl⟩ := bx_inj hb'
    rfl)
def wSectors (K : Nat) : Rel := fun args G r => ∃ (b : Bk) (d : Int) (B : Bn), args = [.ptr (some ⟨b, 0⟩), .int .i64 d] ∧ G.get b = some (bx false B) ∧ Fit B ∧ r = (.v (.int .i64 (B.sectors d)), G.skip K)
theorem tSectors {lf : Nat} (hlf : 1000 < lf) (D K : Nat) : RowTold A1 R1 (Low lf (D + 3)) K (21, relRow (wSectors K)) := by
  intro args G r G' h H u
  obtain ⟨b, d, B, rfl, hb, hf, e⟩ := pick_some h
  cases e
  obtain ⟨F, ds, so, l, c, hR, hF⟩ := opened u hb
  have hl : l ≠ [] := fun e => hf.ne (List.length_eq_zero_iff.1 (by rw [← hR.len, e]; rfl))
  exact ⟨_, H, rfl, bsectors_all hR hl hf.good d lf D, fun hK => asked u K (Turns.refl Z H) hK⟩
theorem uSectors {K : Nat} {G : Heap} {b : Bk} {B : Bn} (hb : G.get b = some (bx false B)) (hf : Fit B) (d : Int) : relRow (wSectors K) [.ptr (some ⟨b, 0⟩), .int .i64 d] G = some (.v (.int .i64 (B.sectors d)), G.skip K) :=
  pick_eq ⟨b, d, B, rfl, hb, hf, rfl⟩ (by
    rintro q ⟨b', d', B', ha, hb', _, rfl⟩
    cases ha
    rw [hb] at hb'
    obtain ⟨_, rfl⟩ := bx_inj hb'
    rfl)
def wDevices (K : Nat) : Rel := fun args G r => ∃ (b : Bk) (B : Bn), args = [.ptr (some ⟨b, 0⟩)] ∧ G.get b = some (bx false B) ∧ Fit B ∧ r = (.v (.int .i64 (B.l.length : Int)), G.skip K)
theorem tDevices {lf : Nat} (hlf : 1000 < lf) (D K : Nat) : RowTold A1 R1 (Low lf (D + 2)) K (19, relRow (wDevices K)) := by
  intro args G r G' h H u
  obtain ⟨b, B, rfl, hb, hf, e⟩ := pick_some h
  cases e
  obtain ⟨F, ds, so, l, c, hR, hF⟩ := opened u hb
  have hl : l ≠ [] := fun e => hf.ne (List.length_eq_zero_iff.1 (by rw [← hR.len, e]; rfl))
  exact ⟨_, H, rfl, (by rw [← hR.len]; exact bdevs hR hl lf D), fun hK => asked u K (Turns.refl Z H) hK⟩
theorem uDevices {K : Nat} {G : Heap} {b : Bk} {B : Bn} (hb : G.get b = some (bx false B)) (hf : Fit B) : relRow (wDevices K) [.ptr (some ⟨b, 0⟩)] G = some (.v (.int .i64 (B.l.length : Int)), G.skip K) :=
  pick_eq ⟨b, B, rfl, hb, hf, rfl⟩ (by
    rintro q ⟨b', B', ha, hb', _, rfl⟩
    cases ha
    rw [hb] at hb'
    obtain ⟨_, rfl⟩ := bx_inj hb'
    rfl)
def wWrite (K : Nat) : Rel := fun args G r => ∃ (b : Bk) (d : Int) (n : Int) (x : Nat) (B : Bn), args = [.ptr (some ⟨b, 0⟩), .int .i64 d, .int .i64 n, .blk x] ∧ G.get b = some (bx false B) ∧ Fit B ∧ r = (.v (.int .i64 (B.wc d n)), (G.set b (bx false (B.write d n x))).skip K)
theorem tWrite {lf : Nat} (hlf : 1000 < lf) (D K : Nat) : RowTold A1 R1 (Low lf (D + 6)) K (46, relRow (wWrite K)) := by
  intro args G r G' h H u
  obtain ⟨b, d, n, x, B, rfl, hb, hf, e⟩ := pick_some h
  cases e
  obtain ⟨F, ds, so, l, c, hR, hF⟩ := opened u hb
  have hl : l ≠ [] := fun e => hf.ne (List.length_eq_zero_iff.1 (by rw [← hR.len, e]; rfl))
  obtain ⟨v, H1, e1, rfl, l', k⟩ := bwrite_all hR hl hf.good hf.ar hf.st d n x hlf D
  exact ⟨_, H1, rfl, e1, fun hK => turned u c hb hF k K hK⟩
theorem uWrite {K : Nat} {G : Heap} {b : Bk} {B : Bn} (hb : G.get b = some (bx false B)) (hf : Fit B) (d : Int) (n : Int) (x : Nat) : relRow (wWrite K) [.ptr (some ⟨b, 0⟩), .int .i64 d, .int .i64 n, .blk x] G = some (.v (.int .i64 (B.wc d n)), (G.set b (bx false (B.write d n x))).skip K) :=
  pick_eq ⟨b, d, n, x, B, rfl, hb, hf, rfl⟩ (by
    rintro q ⟨b', d', n', x', B', ha, hb', _, rfl⟩
    cases ha
    rw [hb] at hb'
    obtain ⟨_, rfl⟩ := bx_inj hb'
    rfl)
def wFlush (K : Nat) : Rel := fun args G r => ∃ (b : Bk) (d : Int) (B : Bn), args = [.ptr (some ⟨b, 0⟩), .int .i64 d] ∧ G.get b = some (bx false B) ∧ Fit B ∧ r = (.v (.int .i64 (B.wc d 0)), (G.set b (bx false (B.flush d))).skip K)
theorem tFlush {lf : Nat} (hlf : 1000 < lf) (D K : Nat) : RowTold A1 R1 (Low lf (D + 5)) K (47, relRow (wFlush K)) := by
  intro args G r G' h H u
  obtain ⟨b, d, B, rfl, hb, hf, e⟩ := pick_some h
  cases e
  obtain ⟨F, ds, so, l, c, hR, hF⟩ := opened u hb
  have hl : l ≠ [] := fun e => hf.ne (List.length_eq_zero_iff.1 (by rw [← hR.len, e]; rfl))
  obtain ⟨v, H1, e1, rfl, l', k⟩ := bflush_all hR hl hf.good hf.ar hf.st d hlf D
  exact ⟨_, H1, rfl, e1, fun hK => turned u c hb hF k K hK⟩
theorem uFlush {K : Nat} {G : Heap} {b : Bk} {B : Bn} (hb : G.get b = some (bx false B)) (hf : Fit B) (d : Int) : relRow (wFlush K) [.ptr (some ⟨b, 0⟩), .int .i64 d] G = some (.v (.int .i64 (B.wc d 0)), (G.set b (bx false (B.flush d))).skip K) :=
  pick_eq ⟨b, d, B, rfl, hb, hf, rfl⟩ (by
    rintro q ⟨b', d', B', ha, hb', _, rfl⟩
    cases ha
    rw [hb] at hb'
    obtain ⟨_, rfl⟩ := bx_inj hb'
    rfl)
def wFail (K : Nat) : Rel := fun args G r => ∃ (b : Bk) (d : Int) (B : Bn), args = [.ptr (some ⟨b, 0⟩), .int .i64 d] ∧ G.get b = some (bx false B) ∧ Fit B ∧ r = (.v (.int .i64 (B.tc d)), (G.set b (bx false (B.fail d))).skip K)
theorem tFail {lf : Nat} (hlf : 1000 < lf) (D K : Nat) : RowTold A1 R1 (Low lf (D + 3)) K (7, relRow (wFail K)) := by
  intro args G r G' h H u
  obtain ⟨b, d, B, rfl, hb, hf, e⟩ := pick_some h
  cases e
  obtain ⟨F, ds, so, l, c, hR, hF⟩ := opened u hb
  have hl : l ≠ [] := fun e => hf.ne (List.length_eq_zero_iff.1 (by rw [← hR.len, e]; rfl))
  obtain ⟨v, H1, e1, rfl, l', k⟩ := bfail_all hR hl hf.good d lf D
  exact ⟨_, H1, rfl, e1, fun hK => turned u c hb hF k K hK⟩
theorem uFail {K : Nat} {G : Heap} {b : Bk} {B : Bn} (hb : G.get b = some (bx false B)) (hf : Fit B) (d : Int) : relRow (wFail K) [.ptr (some ⟨b, 0⟩), .int .i64 d] G = some (.v (.int .i64 (B.tc d)), (G.set b (bx false (B.fail d))).skip K) :=
  pick_eq ⟨b, d, B, rfl, hb, hf, rfl⟩ (by
    rintro q ⟨b', d', B', ha, hb', _, rfl⟩
    cases ha
    rw [hb] at hb'
    obtain ⟨_, rfl⟩ := bx_inj hb'
    rfl)
def wNew (K : Nat) : Rel := fun args G r => ∃ (pp : Option Ptr) (P : List Int) (pc po : Nat), args = [.slice pp P.length pc po] ∧ PicksAt G pp P Z ∧ okSizes P ∧ r = (.v (.tuple [.ptr (some ⟨.run G.next, 0⟩), .int .i64 0]), (G.add (bx false (newB P))).skip (K - 1))
theorem tNew {lf : Nat} (hlf : 1000 < lf) (D K : Nat) (hK1 : 1 ≤ K) : RowTold A1 R1 (Low lf (D + 2)) K (16, relRow (wNew K)) := by
  intro args G r G' h H u
  obtain ⟨pp, P, pc, po, rfl, hP, hok, e⟩ := pick_some h
  cases e
  obtain ⟨v, H1, e1, t, ⟨hn, _⟩ | ⟨_, ds, l, rfl, hR, hN⟩⟩ := bnew_at H (picks_low u hP) hlf D (pc := pc) (po := po)
  · exact absurd hok hn
  · rw [u.next]
    exact ⟨_, H1, rfl, e1, fun hK => made u hR hN t K hK hK1⟩
theorem uNew {K : Nat} {G : Heap} {pp : Option Ptr} {P : List Int} (hP : PicksAt G pp P Z) (hok : okSizes P) (pc po : Nat) : relRow (wNew K) [.slice pp P.length pc po] G = some (.v (.tuple [.ptr (some ⟨.run G.next, 0⟩), .int .i64 0]), (G.add (bx false (newB P))).skip (K - 1)) :=
  pick_eq ⟨pp, P, pc, po, rfl, hP, hok, rfl⟩ (by
    rintro q ⟨pp', P', pc', po', ha, hP', _, rfl⟩
    simp only [List.cons.injEq, V.slice.injEq, and_true] at ha
    obtain ⟨rfl, hl, _⟩ := ha
    rw [picks_uniq hP hP' hl])
def wRNew (K : Nat) : Rel := fun args G r => ∃ (pp : Option Ptr) (P : List Int) (pc po : Nat), args = [.slice pp P.length pc po] ∧ PicksAt G pp P Z ∧ okSizes P ∧ r = (.v (.tuple [.ptr (some ⟨.run G.next, 0⟩), .int .i64 0]), (G.add (bx true (newB P))).skip (K - 1))
theorem tRNew {lf : Nat} (hlf : 1000 < lf) (D K : Nat) (hK1 : 1 ≤ K) : RowTold A1 R1 (Low lf (D + 2)) K (17, relRow (wRNew K)) := by
  intro args G r G' h H u
  obtain ⟨pp, P, pc, po, rfl, hP, hok, e⟩ := pick_some h
  cases e
  obtain ⟨v, H1, e1, t, ⟨hn, _⟩ | ⟨_, ds, l, rfl, hR, hN⟩⟩ := rbnew_at H (picks_low u hP) hlf D (pc := pc) (po := po)
  · exact absurd hok hn
  · rw [u.next]
    exact ⟨_, H1, rfl, e1, fun hK => made u hR hN t K hK hK1⟩
theorem uRNew {K : Nat} {G : Heap} {pp : Option Ptr} {P : List Int} (hP : PicksAt G pp P Z) (hok : okSizes P) (pc po : Nat) : relRow (wRNew K) [.slice pp P.length pc po] G = some (.v (.tuple [.ptr (some ⟨.run G.next, 0⟩), .int .i64 0]), (G.add (bx true (newB P))).skip (K - 1)) :=
  pick_eq ⟨pp, P, pc, po, rfl, hP, hok, rfl⟩ (by
    rintro q ⟨pp', P', pc', po', ha, hP', _, rfl⟩
    simp only [List.cons.injEq, V.slice.injEq, and_true] at ha
    obtain ⟨rfl, hl, _⟩ := ha
    rw [picks_uniq hP hP' hl])
end Go.Proofs.Ytabebpemfinejaa.disk

set_option linter.unusedVariables false
set_option linter.unusedSectionVars false
set_option linter.unusedSimpArgs false
set_option maxRecDepth 10000
namespace Go.Proofs.Ytabebpemfinejaa.draft
open Go.Am
open disk (bx Fit A1 R1 relRow pick pick_eq pick_some Low ok1 opened asked bx_inj Rel)
def blankH : Heap := ⟨.e, 0, fun _ => none, []⟩
open Classical in
noncomputable def pureRow (call : CallT) (f : FuncId) (K : Nat) : List V → Heap → Option (Rs × Heap) := fun args G => match call f args blankH with
  | some (.v v, _) => if ∀ H, ∃ H1, call f args H = some (.v v, H1) ∧ Turns Z H H1 then some (.v v, G.skip K) else none
  | _ => none
theorem pure_told (call : CallT) (f : FuncId) (K : Nat) : RowTold A1 R1 call K (f, pureRow call f K) := by
  intro args G r G' h H u
  have h : pureRow call f K args G = some (r, G') := h
  unfold pureRow at h
  split at h
  · rename_i v H0 h0
    split at h
    · rename_i hall
      cases h
      obtain ⟨H1, e1, t⟩ := hall H
      exact ⟨v, H1, rfl, e1, fun hK => asked u K t hK⟩
    · cases h
  · cases h
theorem pure_use {call : CallT} {f : FuncId} {args : List V} {v : V} (h : ∀ H, ret (call f args H) fun w H' => w = v ∧ Turns Z H H') (K : Nat) (G : Heap) : pureRow call f K args G = some (.v v, G.skip K) := by
  unfold pureRow
  obtain ⟨w, H1, e, rfl, t⟩ := h blankH
  rw [e]
  dsimp only
  rw [if_pos (fun H => by
    obtain ⟨w', H2, e2, e3, t2⟩ := h H
    exact ⟨H2, by rw [e2, e3], t2⟩)]
noncomputable def lookV (B : disk.Bn) : V := match bestC B B.l.length (B.l.length - 1) with
  | none => .tuple [.agg zf, .int .i64 7]
  | some C => .tuple [foundC B B.l.length C, .int .i64 0]
def wLook (K : Nat) : Rel := fun args G r => ∃ (b : Bk) (B : disk.Bn), args = [.ptr (some ⟨b, 0⟩)] ∧ G.get b = some (bx false B) ∧ Fit B ∧ B.dk = false ∧ r = (.v (lookV B), G.skip K)
theorem tLook {lf : Nat} (hlf : 1000 < lf) (D K : Nat) : RowTold A1 R1 (Low lf (D + 9)) K (11, relRow (wLook K)) := by
  intro args G r G' h H u
  obtain ⟨b, B, rfl, hb, hf, hdk, e⟩ := pick_some h
  cases e
  obtain ⟨F, ds, so, l, c, hR, hF⟩ := opened u hb
  have hl : l ≠ [] := fun e => hf.ne (List.length_eq_zero_iff.1 (by rw [← hR.len, e]; rfl))
  obtain ⟨v, H1, e1, t, hv⟩ := look_ok hR hl hf.good hdk (by rw [hR.len]; exact hf.le) hlf D
  rw [hR.len] at hv
  have hv' : v = lookV B := by
    unfold lookV
    rcases hv with ⟨h1, rfl⟩ | ⟨C, h1, rfl⟩
    · rw [h1]
    · rw [h1]
  subst hv'
  exact ⟨_, H1, rfl, e1, fun hK => asked u K t hK⟩
theorem uLook {K : Nat} {G : Heap} {b : Bk} {B : disk.Bn} (hb : G.get b = some (bx false B)) (hf : Fit B) (hdk : B.dk = false) : relRow (wLook K) [.ptr (some ⟨b, 0⟩)] G = some (.v (lookV B), G.skip K) :=
  pick_eq ⟨b, B, rfl, hb, hf, hdk, rfl⟩ (by
    rintro q ⟨b', B', ha, hb', _, _, rfl⟩
    cases ha
    rw [hb] at hb'
    obtain ⟨_, rfl⟩ := bx_inj hb'
    rfl)
noncomputable def tab (lf K : Nat) : List Row := [
  (16, relRow (disk.wNew (K + 2))),
  (17, relRow (disk.wRNew (K + 2))),
  (49, relRow (disk.wRead (K + 2))),
  (46, relRow (disk.wWrite (K + 2))),
  (47, relRow (disk.wFlush (K + 2))),
  (7, relRow (disk.wFail (K + 2))),
  (21, relRow (disk.wSectors (K + 2))),
  (19, relRow (disk.wDevices (K + 2))),
  (65, pureRow (Low lf 60) 65 (K + 2)),
  (45, pureRow (Low lf 60) 45 (K + 2)),
  (28, pureRow (Low lf 60) 28 (K + 2)),
  (20, pureRow (Low lf 60) 20 (K + 2)),
  (18, pureRow (Low lf 60) 18 (K + 2)),
  (10, pureRow (Low lf 60) 10 (K + 2)),
  (12, pureRow (Low lf 60) 12 (K + 2)),
  (15, pureRow (Low lf 60) 15 (K + 2)),
  (11, relRow (wLook (K + 2)))]
def dom0 (f : FuncId) : Bool := Nat.beq f 13 || Nat.beq f 83
noncomputable abbrev U (lf K n : Nat) : CallT := callU Try.prog (upS (tab lf K) S0) (upD (tab lf K) dom0) lf n
theorem tab_told {lf : Nat} (hlf : 1000 < lf) (K : Nat) : ∀ e ∈ tab lf K, RowTold A1 R1 (Low lf 60) (K + 2) e := by
  intro e he
  unfold tab at he
  simp only [List.mem_cons, List.not_mem_nil, or_false] at he
  rcases he with rfl | rfl | rfl | rfl | rfl | rfl | rfl | rfl | rfl | rfl | rfl | rfl | rfl | rfl | rfl | rfl | rfl
  · exact disk.tNew hlf 58 (K + 2) (Nat.le_add_left _ _)
  · exact disk.tRNew hlf 58 (K + 2) (Nat.le_add_left _ _)
  · exact disk.tRead hlf 56 (K + 2)
  · exact disk.tWrite hlf 54 (K + 2)
  · exact disk.tFlush hlf 55 (K + 2)
  · exact disk.tFail hlf 57 (K + 2)
  · exact disk.tSectors hlf 57 (K + 2)
  · exact disk.tDevices hlf 58 (K + 2)
  · exact pure_told _ _ _
  · exact pure_told _ _ _
  · exact pure_told _ _ _
  · exact pure_told _ _ _
  · exact pure_told _ _ _
  · exact pure_told _ _ _
  · exact pure_told _ _ _
  · exact pure_told _ _ _
  · exact tLook hlf 51 (K + 2)
theorem s0_blind : Blind S0 := by
  refine Blind.or (fun f args G r G' h => ?_) (fun f args G r G' h => ?_) (fun f args G H h => by
    unfold sumT at h ⊢
    cases args <;> cases hb : Nat.beq f 13 <;> simp_all)
  · unfold sumT at h
    split at h
    · rename_i hfi
      cases h
      refine ⟨rfl, fun H => ?_⟩
      unfold sumT
      rw [hfi]
    · cases h
  · unfold crc.takeS at h
    split at h
    · rename_i r c hfi
      split at h
      · rename_i hb
        cases h
        refine ⟨rfl, fun H => ?_⟩
        unfold crc.takeS
        simp only [hfi, hb]
      · cases h
    · cases h
theorem s0_dom (f : FuncId) (h : dom0 f = false) (args : List V) (H : Heap) : S0 f args H = none := by
  unfold dom0 at h
  rw [Bool.or_eq_false_iff] at h
  have e1 : sumT 13 f args H = none := by unfold sumT; rw [h.1]
  have e2 : crc.takeS f args H = none := by unfold crc.takeS; rw [h.2]
  show orS (sumT 13) crc.takeS f args H = none
  unfold orS
  rw [e1]
  exact e2
theorem tab_dom (lf K : Nat) (f : FuncId) (h : inTab (tab lf K) f = true) : dom0 f = false := by
  unfold tab at h
  simp only [inTab] at h
  repeat' (split at h)
  all_goals first
    | (rename_i hf; rw [beq_iff.1 hf]; rfl)
    | cases h
theorem up_low {lf : Nat} (hlf : 1000 < lf) (h0 : CallSnd Try.prog S0) (d : Nat) : ∃ K S, CallSnd Try.prog S ∧ CallU A1 R1 (U lf K d) (callS Try.prog S lf d) := by
  obtain ⟨Y, hY⟩ := callU_grow (P := Try.prog) s0_blind.grow (fun _ => false) lf 60
  rw [callU_none] at hY
  exact ⟨Y, _, loS_snd h0 (callS_sound h0 lf 60) (tab lf Y) (Y + 2), level_under ok1 s0_blind s0_dom (GrowS.mono hY (Nat.le_add_right _ _)) (tab_told hlf Y) (tab_dom lf Y) lf d⟩
theorem qNew {lf K w : Nat} {G : Heap} {pp : Option Ptr} {P : List Int} (hP : disk.PicksAt G pp P disk.Z) (hok : disk.okSizes P) (pc po : Nat) : U lf K (w + 1) 16 [.slice pp P.length pc po] G = some (.v (.tuple [.ptr (some ⟨.run G.next, 0⟩), .int .i64 0]), (G.add (bx false (disk.newB P))).skip (K + 1)) := callU_tab (fun _ _ => rfl) (disk.uNew (K := K + 2) hP hok pc po)
theorem qRNew {lf K w : Nat} {G : Heap} {pp : Option Ptr} {P : List Int} (hP : disk.PicksAt G pp P disk.Z) (hok : disk.okSizes P) (pc po : Nat) : U lf K (w + 1) 17 [.slice pp P.length pc po] G = some (.v (.tuple [.ptr (some ⟨.run G.next, 0⟩), .int .i64 0]), (G.add (bx true (disk.newB P))).skip (K + 1)) := callU_tab (fun _ _ => rfl) (disk.uRNew (K := K + 2) hP hok pc po)
theorem qRead {lf K w : Nat} {G : Heap} {b : Bk} {B : disk.Bn} (hb : G.get b = some (bx false B)) (hf : Fit B) (d : Int) (n : Int) : U lf K (w + 1) 49 [.ptr (some ⟨b, 0⟩), .int .i64 d, .int .i64 n] G = some (.v (.tuple [.blk (B.read d n), .int .i64 (B.rc d n)]), G.skip (K + 2)) := callU_tab (fun _ _ => rfl) (disk.uRead (K := K + 2) hb hf d n)
theorem qWrite {lf K w : Nat} {G : Heap} {b : Bk} {B : disk.Bn} (hb : G.get b = some (bx false B)) (hf : Fit B) (d : Int) (n : Int) (x : Nat) : U lf K (w + 1) 46 [.ptr (some ⟨b, 0⟩), .int .i64 d, .int .i64 n, .blk x] G = some (.v (.int .i64 (B.wc d n)), (G.set b (bx false (B.write d n x))).skip (K + 2)) := callU_tab (fun _ _ => rfl) (disk.uWrite (K := K + 2) hb hf d n x)
theorem qFlush {lf K w : Nat} {G : Heap} {b : Bk} {B : disk.Bn} (hb : G.get b = some (bx false B)) (hf : Fit B) (d : Int) : U lf K (w + 1) 47 [.ptr (some ⟨b, 0⟩), .int .i64 d] G = some (.v (.int .i64 (B.wc d 0)), (G.set b (bx false (B.flush d))).skip (K + 2)) := callU_tab (fun _ _ => rfl) (disk.uFlush (K := K + 2) hb hf d)
theorem qFail {lf K w : Nat} {G : Heap} {b : Bk} {B : disk.Bn} (hb : G.get b = some (bx false B)) (hf : Fit B) (d : Int) : U lf K (w + 1) 7 [.ptr (some ⟨b, 0⟩), .int .i64 d] G = some (.v (.int .i64 (B.tc d)), (G.set b (bx false (B.fail d))).skip (K + 2)) := callU_tab (fun _ _ => rfl) (disk.uFail (K := K + 2) hb hf d)
theorem qSectors {lf K w : Nat} {G : Heap} {b : Bk} {B : disk.Bn} (hb : G.get b = some (bx false B)) (hf : Fit B) (d : Int) : U lf K (w + 1) 21 [.ptr (some ⟨b, 0⟩), .int .i64 d] G = some (.v (.int .i64 (B.sectors d)), G.skip (K + 2)) := callU_tab (fun _ _ => rfl) (disk.uSectors (K := K + 2) hb hf d)
theorem qDevices {lf K w : Nat} {G : Heap} {b : Bk} {B : disk.Bn} (hb : G.get b = some (bx false B)) (hf : Fit B) : U lf K (w + 1) 19 [.ptr (some ⟨b, 0⟩)] G = some (.v (.int .i64 (B.l.length : Int)), G.skip (K + 2)) := callU_tab (fun _ _ => rfl) (disk.uDevices (K := K + 2) hb hf )
theorem qp_super_newest {lf K w : Nat} {G : Heap} {args : List V} {v : V} (h : ∀ H, ret (callS Try.prog S0 lf 60 65 args H) fun w H' => w = v ∧ Turns Z H H') : U lf K (w + 1) 65 args G = some (.v v, G.skip (K + 2)) := callU_tab (fun _ _ => rfl) (pure_use h (K + 2) G)
theorem qp_super_Put {lf K w : Nat} {G : Heap} {args : List V} {v : V} (h : ∀ H, ret (callS Try.prog S0 lf 60 45 args H) fun w H' => w = v ∧ Turns Z H H') : U lf K (w + 1) 45 args G = some (.v v, G.skip (K + 2)) := callU_tab (fun _ _ => rfl) (pure_use h (K + 2) G)
theorem qp_roster_Lose {lf K w : Nat} {G : Heap} {args : List V} {v : V} (h : ∀ H, ret (callS Try.prog S0 lf 60 28 args H) fun w H' => w = v ∧ Turns Z H H') : U lf K (w + 1) 28 args G = some (.v v, G.skip (K + 2)) := callU_tab (fun _ _ => rfl) (pure_use h (K + 2) G)
theorem qp_roster_May {lf K w : Nat} {G : Heap} {args : List V} {v : V} (h : ∀ H, ret (callS Try.prog S0 lf 60 20 args H) fun w H' => w = v ∧ Turns Z H H') : U lf K (w + 1) 20 args G = some (.v v, G.skip (K + 2)) := callU_tab (fun _ _ => rfl) (pure_use h (K + 2) G)
theorem qp_ashlarref08_Fine {lf K w : Nat} {G : Heap} {args : List V} {v : V} (h : ∀ H, ret (callS Try.prog S0 lf 60 18 args H) fun w H' => w = v ∧ Turns Z H H') : U lf K (w + 1) 18 args G = some (.v v, G.skip (K + 2)) := callU_tab (fun _ _ => rfl) (pure_use h (K + 2) G)
theorem qp_ashlarref10_Lose {lf K w : Nat} {G : Heap} {args : List V} {v : V} (h : ∀ H, ret (callS Try.prog S0 lf 60 10 args H) fun w H' => w = v ∧ Turns Z H H') : U lf K (w + 1) 10 args G = some (.v v, G.skip (K + 2)) := callU_tab (fun _ _ => rfl) (pure_use h (K + 2) G)
theorem qp_ashlarref10_Missing {lf K w : Nat} {G : Heap} {args : List V} {v : V} (h : ∀ H, ret (callS Try.prog S0 lf 60 12 args H) fun w H' => w = v ∧ Turns Z H H') : U lf K (w + 1) 12 args G = some (.v v, G.skip (K + 2)) := callU_tab (fun _ _ => rfl) (pure_use h (K + 2) G)
theorem qp_ashlarref08_Rosters {lf K w : Nat} {G : Heap} {args : List V} {v : V} (h : ∀ H, ret (callS Try.prog S0 lf 60 15 args H) fun w H' => w = v ∧ Turns Z H H') : U lf K (w + 1) 15 args G = some (.v v, G.skip (K + 2)) := callU_tab (fun _ _ => rfl) (pure_use h (K + 2) G)
theorem qLook {lf K w : Nat} {G : Heap} {b : Bk} {B : disk.Bn} (hb : G.get b = some (bx false B)) (hf : Fit B) (hdk : B.dk = false) : U lf K (w + 1) 11 [.ptr (some ⟨b, 0⟩)] G = some (.v (lookV B), G.skip (K + 2)) := callU_tab (fun _ _ => rfl) (uLook (K := K + 2) hb hf hdk)
end Go.Proofs.Ytabebpemfinejaa.draft

set_option linter.unusedVariables false
set_option linter.unusedSectionVars false
set_option linter.unusedSimpArgs false
set_option maxRecDepth 10000
namespace Go.Proofs.Ytabebpemfinejaa.draft
open Go.Am
open disk (bx Fit A1 R1 Low)
noncomputable def c54 : CFn := ⟨[.tmp (pp 4)],
 .seq (.reg [
 qo 2 (.m (boxF 64 (tt 0))) [pp 0],
 qo 3 (.m (boxF 64 (tt 1))) [pp 1],
 qo 4 (.p (S.get (ii 0))) []]) (
 .seq (.seq (.reg [
 qo 8 (.r (loadF (tt 2) 64 .bk)) [pp 2],
 qo 9 (.r (loadF (tt 3) 64 .bk)) [pp 3],
 qo 10 (.c (callF (ff 65) [(tt 8), (tt 9)])) [pp 8, pp 9],
 mv 7 10,
 qo 11 (.p (extF (tt 7) 0)) [pp 7],
 qo 12 (.p (extF (tt 7) 1)) [pp 7],
 mv 5 11,
 mv 6 12]) (
 .seq (.reg [
 mv 13 6,
 qo 14 (.p (unF .not (tt 13))) [pp 13],
 mv 15 14,
 mg 16 5 15 true,
 qg 17 (.p (eqcF false false [.int .i64] (tt 16) (ii 0))) 15 true [pp 16],
 qo 18 (.p (pickF (tt 15) (tt 17) (.c (.bool false)))) [pp 15, pp 17]]) (
 .cond (tt 18) (.seq (.reg [
 qo 4 (.p (S.get (ii 1))) []]) (
 .ret)) (.skip)))) (
 .seq (.reg [
 qo 4 (.p (S.get (ii 0))) []]) (
 .ret)))⟩
theorem c54_eq : fnOf Try.prog 54 = some c54 := by kernel_rfl
noncomputable def c44 : CFn := ⟨[.tmp (pp 4), .tmp (pp 5)],
 .seq (.reg [
 qo 4 (.p (S.get (ii 0))) [],
 qo 5 (.p (S.get (ii 0))) []]) (
 .seq (.reg [
 mv 10 0,
 qo 11 (.p (nilcF (tt 10))) [pp 10],
 qo 12 (.p (faddrF (tt 11) 0)) [pp 11],
 qo 13 (.r (loadF (tt 12) 1 .sc)) [pp 12],
 mv 14 1,
 qo 15 (.c (callF (ff 49) [(tt 13), (tt 14), (ii 0)])) [pp 13, pp 14],
 mv 9 15,
 qo 16 (.p (extF (tt 9) 0)) [pp 9],
 qo 17 (.p (extF (tt 9) 1)) [pp 9],
 qo 6 (.m (allocF 64 [.blk 0])) [],
 qn (.a (storeF (tt 6) (tt 16) 64)) [pp 6, pp 16],
 mv 7 17]) (
 .seq (.seq (.reg [
 mv 18 7,
 qo 19 (.p (eqcF true false [.int .i64] (tt 18) (ii 0))) [pp 18]]) (
 .cond (tt 19) (.seq (.reg [
 mv 20 7,
 qo 4 (.p (S.get (ii 0))) [],
 mv 5 20]) (
 .ret)) (.skip))) (
 .seq (.reg [
 mv 22 0,
 qo 23 (.p (nilcF (tt 22))) [pp 22],
 qo 24 (.p (faddrF (tt 23) 0)) [pp 23],
 qo 25 (.r (loadF (tt 24) 1 .sc)) [pp 24],
 mv 26 1,
 qo 27 (.c (callF (ff 49) [(tt 25), (tt 26), (ii 1)])) [pp 25, pp 26],
 mv 21 27,
 qo 28 (.p (extF (tt 21) 0)) [pp 21],
 qo 29 (.p (extF (tt 21) 1)) [pp 21],
 qo 8 (.m (allocF 64 [.blk 0])) [],
 qn (.a (storeF (tt 8) (tt 28) 64)) [pp 8, pp 28],
 mv 7 29]) (
 .seq (.reg [
 qo 30 (.r (loadF (tt 6) 64 .bk)) [pp 6],
 qo 31 (.r (loadF (tt 8) 64 .bk)) [pp 8],
 qo 32 (.c (callF (ff 54) [(tt 30), (tt 31)])) [pp 30, pp 31],
 mv 33 7,
 mv 4 32,
 mv 5 33]) (
 .ret)))))⟩
theorem c44_eq : fnOf Try.prog 44 = some c44 := by kernel_rfl
noncomputable def c27 : CFn := ⟨[.tmp (pp 4)],
 .seq (.reg [
 qo 4 (.p (S.get (ii 0))) []]) (
 .seq (.reg [
 mv 11 0,
 mv 12 1,
 qo 13 (.c (callF (ff 44) [(tt 11), (tt 12)])) [pp 11, pp 12],
 mv 10 13,
 qo 14 (.p (extF (tt 10) 0)) [pp 10],
 qo 15 (.p (extF (tt 10) 1)) [pp 10],
 mv 5 14,
 mv 6 15]) (
 .seq (.seq (.reg [
 mv 16 6,
 qo 17 (.p (eqcF true false [.int .i64] (tt 16) (ii 0))) [pp 16]]) (
 .cond (tt 17) (.seq (.reg [
 mv 18 6,
 mv 4 18]) (
 .ret)) (.skip))) (
 .seq (.regD [
 mv 20 0,
 qo 21 (.p (nilcF (tt 20))) [pp 20],
 qo 22 (.p (faddrF (tt 21) 2)) [pp 21],
 qo 23 (.r (loadF (tt 22) 1 .sc)) [pp 22],
 mv 24 0,
 qo 25 (.p (nilcF (tt 24))) [pp 24],
 qo 26 (.p (faddrF (tt 25) 1)) [pp 25],
 qo 27 (.r (loadF (tt 26) 1 .sc)) [pp 26],
 mv 28 1,
 mv 29 0,
 qo 30 (.p (nilcF (tt 29))) [pp 29],
 qo 31 (.p (faddrF (tt 30) 3)) [pp 30],
 qo 32 (.r (loadF (tt 31) 21 .ag)) [pp 31],
 qo 33 (.p (buildF [.int .u64 0, .int .i64 0, .int .i64 0, .int .i64 0, .int .i64 0, .int .u8 0, .int .u8 0, .int .u8 0, .int .u8 0, .int .u8 0, .int .u8 0, .int .u8 0, .int .u8 0, .int .u8 0, .int .u8 0, .int .u8 0, .int .u8 0, .int .u8 0, .int .u8 0, .int .u8 0, .int .u8 0, .int .i64 0, .bool false] .ag [(0, 1, (tt 27)), (1, 1, (tt 28)), (2, 21, (tt 32))])) [pp 27, pp 28, pp 32],
 qo 34 (.c (callF (ff 45) [(tt 23), (tt 33)])) [pp 23, pp 33],
 mv 19 34,
 qo 35 (.p (extF (tt 19) 0)) [pp 19],
 qo 36 (.p (extF (tt 19) 1)) [pp 19],
 qo 7 (.m (allocF 64 [.blk 0])) [],
 qn (.a (storeF (tt 7) (tt 35) 64)) [pp 7, pp 35],
 mv 8 36] [0, 1, 3, 7, 0, 16, 48, 112, 0, 0, 512, 1536, 3584, 8176, 16383, 32767, 65535, 65535, 0, 393215, 1048575]) (
 .seq (.seq (.regD [
 mv 37 0,
 qo 38 (.p (nilcF (tt 37))) [pp 37],
 qo 39 (.p (faddrF (tt 38) 0)) [pp 38],
 qo 40 (.r (loadF (tt 39) 1 .sc)) [pp 39],
 mv 41 1,
 mv 42 5,
 qo 43 (.r (loadF (tt 7) 64 .bk)) [pp 7],
 qo 44 (.c (callF (ff 46) [(tt 40), (tt 41), (tt 42), (tt 43)])) [pp 40, pp 41, pp 42, pp 43],
 mv 9 44] [0, 1, 3, 7, 0, 0, 0, 127, 255]) (
 .seq (.reg [
 mv 45 9,
 qo 46 (.p (eqcF true false [.int .i64] (tt 45) (ii 0))) [pp 45]]) (
 .cond (tt 46) (.seq (.reg [
 mv 47 9,
 mv 4 47]) (
 .ret)) (.skip)))) (
 .seq (.reg [
 mv 48 0,
 qo 49 (.p (nilcF (tt 48))) [pp 48],
 qo 50 (.p (faddrF (tt 49) 0)) [pp 49],
 qo 51 (.r (loadF (tt 50) 1 .sc)) [pp 50],
 mv 52 1,
 qo 53 (.c (callF (ff 47) [(tt 51), (tt 52)])) [pp 51, pp 52],
 mv 4 53]) (
 .ret))))))⟩
theorem c27_eq : fnOf Try.prog 27 = some c27 := by kernel_rfl
noncomputable def slotN (A B : Nat) : Int := if newW A B = some 0 then 1 else 0
noncomputable def newV (A B : Nat) : V := match newW A B with
  | none => .tuple [.int .i64 0, .bool true]
  | some w => .tuple [.int .i64 (w : Int), .bool false]
theorem newV_ok (A B : Nat) {lf : Nat} (hlf : 60 < lf) (H : Heap) : ret (callS Try.prog S0 lf 60 65 [.blk A, .blk B] H) fun w H' => w = newV A B ∧ Turns Z H H' := by
  obtain ⟨v, H', e, t, h⟩ := newest_ok H A B hlf 54
  refine ⟨v, H', e, ?_, t⟩
  unfold newV
  rcases h with ⟨h, rfl⟩ | ⟨h, rfl⟩ | ⟨h, rfl⟩ <;> rw [h] <;> rfl
theorem newW_cases (A B : Nat) : newW A B = none ∨ newW A B = some 1 ∨ newW A B = some 0 := by
  unfold newW
  split
  · exact .inl rfl
  · split
    · exact .inr (.inl rfl)
    · exact .inr (.inr rfl)
theorem one_cast : ((1 : Nat) : Int) = 1 := rfl
theorem zero_cast : ((0 : Nat) : Int) = 0 := rfl
structure HB (G : Heap) (h b : Bk) (id ev m s r : Int) (S : List Nat) (c : Int) (g : Bool) (B : disk.Bn) : Prop where
  hull : HullAt G h b id ev m s r S c g
  bench : G.get b = some (bx false B)
  old : G.Old b
  fit : Fit B
theorem HB.turns {G G' : Heap} {h b : Bk} {id ev m s r : Int} {S : List Nat} {c : Int} {g : Bool} {B : disk.Bn} (x : HB G h b id ev m s r S c g B) (t : Turns Z G G') : HB G' h b id ev m s r S c g B :=
  ⟨x.hull.turns t, (t.same b x.old (fun h => h)).trans x.bench, x.old.mono t.next, x.fit⟩
theorem HB.ne {G : Heap} {h b : Bk} {id ev m s r : Int} {S : List Nat} {c : Int} {g : Bool} {B : disk.Bn} (x : HB G h b id ev m s r S c g B) : (h = b) = False := by
  simp only [eq_iff_iff, iff_false]
  intro e
  have h1 := x.hull.own
  rw [e, x.bench] at h1
  cases h1
theorem put_sb {S : List Nat} (hS : S.length = 16) (id me m s r c : Int) (g : Bool) : Go.Am.put (V.int .u64 id :: V.int .i64 me :: zros) 2 (rcells m s r S c g) = some (scells id me m s r S c g) := by
  match S, hS with
  | [_, _, _, _, _, _, _, _, _, _, _, _, _, _, _, _], _ => rfl
noncomputable def slotV (B : disk.Bn) (d : Int) : V := if B.rc d 0 = 0 then .tuple [.int .i64 (slotN (B.read d 0) (B.read d 1)), .int .i64 (B.rc d 1)] else .tuple [.int .i64 0, .int .i64 (B.rc d 0)]
section
variable {lf K : Nat} (hlf : 1000 < lf)
include hlf
theorem uslot (G : Heap) (A B : Nat) (n : Nat) : ret (U lf K (n + 2) 54 [.blk A, .blk B] G) fun v G' => v = .int .i64 (slotN A B) ∧ Turns Z G G' := by
  refine ret_callU rfl rfl c54_eq ?_
  have e : ∀ H : Heap, U lf K (n + 1) 65 [.blk A, .blk B] H = _ := fun H => qp_super_newest (newV_ok A B (by omega))
  rcases newW_cases A B with h | h | h
  all_goals
    simp only [c54, newV, slotN, h, e, one_cast, zero_cast, hv, ldO_one, stO_one, sy, tup, ↓reduceIte, Nat.reduceEqDiff, Nat.reduceAdd, Nat.reduceSub, Nat.reduceMul, Nat.reduceDiv, Nat.reduceMod, Nat.reduceLeDiff, Int.reduceBEq, reduceCtorEq]
    exact ⟨trivial, .inr trivial, _, rfl, rfl, ((Turns.add Z G _).addm _).skip _⟩
variable {G : Heap} {h b : Bk} {id ev m s r : Int} {S : List Nat} {c : Int} {g : Bool} {B : disk.Bn} (hh : HB G h b id ev m s r S c g B)
include hh
theorem uhslot (d : Int) (n : Nat) : ret (U lf K (n + 3) 44 [.ptr (some ⟨h, 0⟩), .int .i64 d] G) fun v G' => v = slotV B d ∧ Turns Z G G' := by
  have l0 := hl_b hh.hull
  rw [ld_get, hh.hull.own] at l0
  have ho := hh.hull.old
  have bo := hh.old
  have e : ∀ (H : Heap) (j : Int), H.get b = some (bx false B) → U lf K (n + 2) 49 [.ptr (some ⟨b, 0⟩), .int .i64 d, .int .i64 j] H = _ := fun H j hB => qRead hB hh.fit d j
  obtain ⟨F, eF, tF⟩ := ret_fun (fun H => uslot (K := K) hlf H (B.read d 0) (B.read d 1) n)
  refine ret_callU rfl rfl c44_eq ?_
  by_cases h0 : B.rc d 0 = 0
  · have z0 : (B.rc d 0 == 0) = true := by simp [h0]
    simp (maxDischargeDepth := 12) only [c44, l0, hh.hull.own, hh.bench, e, eF, z0, ho.ne, bo.ne, hv, ldO_one, stO_one, sy, tup, ↓reduceIte, Nat.reduceEqDiff, Nat.reduceAdd, Nat.reduceSub, Nat.reduceMul, Nat.reduceDiv, Nat.reduceMod, Nat.reduceLeDiff, Int.reduceBEq, reduceCtorEq]
    refine ⟨trivial, .inr trivial, _, rfl, by unfold slotV; rw [if_pos h0], ?_⟩
    repeat (first | exact Turns.refl _ _ | apply Turns.skip | apply Turns.addm | apply Turns.setb | apply Turns.setl | apply Turns.setr | refine Turns.setn ?_ _ (by omega) _ | refine Turns.trans ?_ (tF _))
  · have z0 : (B.rc d 0 == 0) = false := by simp [h0]
    simp (maxDischargeDepth := 12) only [c44, l0, hh.hull.own, hh.bench, e, z0, ho.ne, bo.ne, hv, ldO_one, stO_one, sy, tup, ↓reduceIte, Nat.reduceEqDiff, Nat.reduceAdd, Nat.reduceSub, Nat.reduceMul, Nat.reduceDiv, Nat.reduceMod, Nat.reduceLeDiff, Int.reduceBEq, reduceCtorEq]
    refine ⟨trivial, .inr trivial, _, rfl, by unfold slotV; rw [if_neg h0], ?_⟩
    repeat (first | exact Turns.refl _ _ | apply Turns.skip | apply Turns.addm | apply Turns.setb | apply Turns.setl | apply Turns.setr | refine Turns.setn ?_ _ (by omega) _ | refine Turns.trans ?_ (tF _))
theorem uhput_dead {d : Int} (h9 : B.rc d 0 ≠ 0) (n : Nat) : ret (U lf K (n + 4) 27 [.ptr (some ⟨h, 0⟩), .int .i64 d] G) fun v G' => v = .int .i64 (B.rc d 0) ∧ Turns Z G G' := by
  obtain ⟨v, G1, e1, rfl, t1⟩ := uhslot hlf hh d n (K := K)
  have z0 : (B.rc d 0 == 0) = false := by simp [h9]
  have hs : slotV B d = .tuple [.int .i64 0, .int .i64 (B.rc d 0)] := if_neg h9
  rw [hs] at e1
  refine ret_callU rfl rfl c27_eq ?_
  simp (maxDischargeDepth := 12) only [c27, e1, z0, hv, ldO_one, stO_one, sy, tup, ↓reduceIte, Nat.reduceEqDiff, Nat.reduceAdd, Nat.reduceSub, Nat.reduceMul, Nat.reduceDiv, Nat.reduceMod, Nat.reduceLeDiff, Int.reduceBEq, reduceCtorEq]
  exact ⟨trivial, .inr trivial, _, rfl, rfl, t1⟩
theorem uhput_ok {i : Nat} {N ID : Nat} (hev : ev = (N : Int)) (hd : id = (ID : Int)) (hN : N < 18446744073709551616) (hI : ID < 18446744073709551616) (h1 : evt N = true) (h2 : smay (ID : Int) (i : Int) m s r S c) (hr0 : B.rc i 0 = 0) (hr1 : B.rc i 1 = 0) {sl : Int} (hsl : slotN (B.read i 0) (B.read i 1) = sl)
    {X : Nat} (hX : supBlk N ID i m s r S c g = X) (hw : B.wc i sl = 0) (hf1 : Fit (B.write i sl X)) (hw1 : (B.write i sl X).wc i 0 = 0) (n : Nat) : ret (U lf K (n + 4) 27 [.ptr (some ⟨h, 0⟩), .int .i64 (i : Int)] G) fun v G' => v = .int .i64 0 ∧ G'.get b = some (bx false ((B.write i sl X).flush i)) ∧ Turns (fun c => c = b) G G' := by
  obtain ⟨v, G1, e1, rfl, t1⟩ := uhslot hlf hh i n (K := K)
  have hs : slotV B i = .tuple [.int .i64 sl, .int .i64 0] := by unfold slotV; rw [if_pos hr0, hsl, hr1]
  rw [hs] at e1
  have hh1 : HB G1 h b id ev m s r S c g B := hh.turns t1
  have l0 := hl_b hh1.hull
  have l1 := hl_id hh1.hull
  have l2 := hl_ev hh1.hull
  have l3 := hl_r hh1.hull
  rw [ld_get, hh1.hull.own] at l0 l1 l2 l3
  have ho := hh1.hull.old
  have bo := hh1.old
  have hp := put_sb hh.hull.len id (i : Int) m s r c g
  have hrw := r_width hh.hull.len m s r c g
  have hsw := s_width hh.hull.len id (i : Int) m s r c g
  subst hev hd
  have eP : ∀ H : Heap, U lf K (n + 3) 45 [.int .u64 (N : Int), sup ID i m s r S c g] H = some (.v (.tuple [.blk X, .int .i64 0]), H.skip (K + 2)) := fun H => qp_super_Put (fun H => by
    obtain ⟨v, H', e, t, ⟨_, _, rfl⟩ | ⟨hn, _⟩⟩ := pput8_ok H (g := g) hN hI hh.hull.len (lf := lf) (by omega) 54 (me := i) (m := m) (s := s) (r := r) (c := c)
    · exact ⟨_, H', e, by rw [← hX], t⟩
    · exact absurd ⟨h1, h2⟩ hn)
  have eW : ∀ H : Heap, H.get b = some (bx false B) → U lf K (n + 3) 46 [.ptr (some ⟨b, 0⟩), .int .i64 (i : Int), .int .i64 sl, .blk X] H = _ := fun H hB => qWrite hB hh.fit i sl X
  have eF : ∀ H : Heap, H.get b = some (bx false (B.write i sl X)) → U lf K (n + 3) 47 [.ptr (some ⟨b, 0⟩), .int .i64 (i : Int)] H = _ := fun H hB => qFlush hB hf1 i
  rw [hw] at eW
  rw [hw1] at eF
  have hne := hh1.ne
  unfold zros at hp
  unfold sup at eP
  refine ret_callU rfl rfl c27_eq ?_
  simp (maxDischargeDepth := 12) only [c27, e1, l0, l1, l2, l3, hh1.hull.own, hh1.bench, eP, eW, eF, ho.ne, bo.ne, hne, hp, hsw, hrw, hv, ldO_one, stO_one, sy, tup, ↓reduceIte, Nat.reduceEqDiff, Nat.reduceAdd, Nat.reduceSub, Nat.reduceMul, Nat.reduceDiv, Nat.reduceMod, Nat.reduceLeDiff, Int.reduceBEq, reduceCtorEq]
  rw [endD_ok (by kernel_rfl) (by kernel_rfl)]
  simp (maxDischargeDepth := 12) only [l0, hh1.hull.own, hh1.bench, eW, eF, ho.ne, bo.ne, hne, hv, ldO_one, stO_one, sy, tup, ↓reduceIte, Nat.reduceEqDiff, Nat.reduceAdd, Nat.reduceSub, Nat.reduceMul, Nat.reduceDiv, Nat.reduceMod, Nat.reduceLeDiff, Int.reduceBEq, reduceCtorEq]
  rw [endD_ok (by kernel_rfl) (by kernel_rfl)]
  simp (maxDischargeDepth := 12) only [l0, hh1.hull.own, hh1.bench, eW, eF, ho.ne, bo.ne, hne, hv, ldO_one, stO_one, sy, tup, ↓reduceIte, Nat.reduceEqDiff, Nat.reduceAdd, Nat.reduceSub, Nat.reduceMul, Nat.reduceDiv, Nat.reduceMod, Nat.reduceLeDiff, Int.reduceBEq, reduceCtorEq]
  refine ⟨trivial, .inr trivial, _, rfl, rfl, trivial, ?_⟩
  refine (t1.wide (fun c hc => hc.elim)).trans ?_
  repeat (first | exact Turns.refl _ _ | apply Turns.skip | apply Turns.addm | apply Turns.setb | apply Turns.setl | apply Turns.setr | refine Turns.setn ?_ _ (by omega) _ | refine Turns.trans ?_ (tF _))
end
end Go.Proofs.Ytabebpemfinejaa.draft

set_option linter.unusedVariables false
set_option linter.unusedSectionVars false
set_option linter.unusedSimpArgs false
set_option maxRecDepth 10000
namespace Go.Proofs.Ytabebpemfinejaa.draft
open Go.Am
open disk (Fit Bok Dev Bn Good)
structure Calm (m k : Nat) (B : Bn) : Prop where
  ok : Bok k B
  ar : B.ar = 0
  dk : B.dk = false
  len : B.l.length = m + 1
  le : m ≤ 16
  sz : ∀ i : Nat, i < m → 2 ≤ (B.dev i).S.length
  lo : ∀ i : Nat, i < m → (B.dev i).L = []
theorem dev_at {B : Bn} {i : Nat} (h : i < B.l.length) : B.dev (i : Int) = B.l[i] := by
  unfold Bn.dev
  simp [List.getD, h]
theorem dev_set {B : Bn} {i j : Nat} (hj : j < B.l.length) (D : Dev) (st ar : Int) (dk : Bool) : (⟨B.l.set i D, st, ar, dk⟩ : Bn).dev (j : Int) = if j = i then D else B.dev (j : Int) := by
  rw [dev_at (by simpa using hj), dev_at hj]
  simp only [List.getElem_set]
  by_cases e : i = j
  · simp [e]
  · simp [e, Ne.symm e]
def sect (B : Bn) (i j : Nat) : Nat := (B.dev (i : Int)).S.getD j 0
def dead (B : Bn) (i : Nat) : Bool := (B.dev (i : Int)).dead
section
variable {m k : Nat} {B : Bn} (h : Calm m k B)
include h
theorem Calm.fit (hk : k ≤ 900) : Fit B := h.ok.fit hk (fun e => by have := h.len; rw [e] at this; simp at this) (by have := h.len; have := h.le; omega)
theorem Calm.tc {i : Nat} (hi : i < m) : B.tc (i : Int) = 0 := by
  unfold Bn.tc disk.tcode
  have := h.len
  rw [if_pos (by omega)]
theorem Calm.lc {i : Nat} (hi : i < m) : B.lc (i : Int) = 0 := by
  unfold Bn.lc
  rw [h.dk, if_neg (by decide), h.tc hi]
theorem Calm.rc {i j : Nat} (hi : i < m) (hj : j < 2) : B.rc (i : Int) (j : Int) = if dead B i = true then 9 else 0 := by
  unfold Bn.rc
  rw [if_pos (h.lc hi)]
  unfold disk.code dead
  have := h.sz i hi
  rw [if_neg (by omega)]
theorem Calm.read {i j : Nat} (hi : i < m) (hj : j < 2) (hd : dead B i = false) : B.read (i : Int) (j : Int) = sect B i j := by
  unfold Bn.read
  rw [if_pos (h.lc hi)]
  have := h.rc hi hj
  unfold Bn.rc at this
  rw [if_pos (h.lc hi), hd, if_neg (by decide)] at this
  unfold Dev.read
  rw [if_pos this]
  unfold disk.readN
  rw [h.lo i hi]
  rfl
def wrB (B : Bn) (i : Nat) (sl : Nat) (X : Nat) : Bn := (B.write (i : Int) (sl : Int) X).flush (i : Int)
theorem Calm.put {i sl : Nat} (hi : i < m) (hsl : sl < 2) (hd : dead B i = false) (X : Nat) :
    B.wc (i : Int) (sl : Int) = 0 ∧ (B.write (i : Int) (sl : Int) X).wc (i : Int) 0 = 0 ∧ Bok (k + 1) (B.write (i : Int) (sl : Int) X) ∧ (B.write (i : Int) (sl : Int) X).l.length = m + 1 ∧
      Calm m (k + 2) (wrB B i sl X) ∧ (∀ j : Nat, j < m + 1 → (wrB B i sl X).dev (j : Int) = if j = i then ⟨(B.dev (i : Int)).S.set sl X, [], false⟩ else B.dev (j : Int)) := by
  have hlen := h.len
  have hr := h.rc hi hsl
  rw [hd, if_neg (by decide)] at hr
  have hc : disk.code (B.dev (i : Int)) (sl : Int) = 0 := by
    unfold Bn.rc at hr
    rw [if_pos (h.lc hi)] at hr
    exact hr
  have e1 : B.write (i : Int) (sl : Int) X = ⟨B.l.set i ⟨(B.dev (i : Int)).S, [(sl, X)], false⟩, B.st + 1, 0, false⟩ := by
    unfold Bn.write
    rw [if_pos hr]
    unfold Bn.step
    rw [h.ar, if_neg (by decide), h.dk]
    unfold Dev.write
    rw [if_pos hc, h.lo i hi]
    have : (B.dev (i : Int)).dead = false := hd
    rw [this]
    rfl
  have hw : B.wc (i : Int) (sl : Int) = 0 := by
    unfold Bn.wc Bn.sc
    rw [if_pos hr, h.ar, if_neg (by decide)]
  have ok1 := h.ok.write (i : Int) (sl : Int) X
  have len1 : (B.write (i : Int) (sl : Int) X).l.length = m + 1 := by rw [disk.write_len]; exact hlen
  have ok2 := ok1.flush (i : Int)
  have dv1 : ∀ j : Nat, j < m + 1 → (B.write (i : Int) (sl : Int) X).dev (j : Int) = if j = i then ⟨(B.dev (i : Int)).S, [(sl, X)], false⟩ else B.dev (j : Int) := fun j hj => by
    rw [e1]; exact dev_set (by omega) _ _ _ _
  have ar1 : (B.write (i : Int) (sl : Int) X).ar = 0 := by rw [e1]
  have dk1 : (B.write (i : Int) (sl : Int) X).dk = false := by rw [e1]
  generalize hB1 : B.write (i : Int) (sl : Int) X = B1 at *
  have tc1 : B1.tc (i : Int) = 0 := by
    unfold Bn.tc disk.tcode
    rw [if_pos (by omega)]
  have lc1 : B1.lc (i : Int) = 0 := by
    unfold Bn.lc
    rw [dk1, if_neg (by decide), tc1]
  have di := dv1 i (by omega)
  rw [if_pos rfl] at di
  have hsz := h.sz i hi
  have hr1 : B1.rc (i : Int) 0 = 0 := by
    unfold Bn.rc disk.code
    rw [if_pos lc1, di]
    rw [if_neg (by dsimp only; omega)]
    rfl
  have hw1 : B1.wc (i : Int) 0 = 0 := by
    unfold Bn.wc Bn.sc
    rw [if_pos hr1, ar1, if_neg (by decide)]
  have e2 : wrB B i sl X = ⟨B1.l.set i ⟨(B.dev (i : Int)).S.set sl X, [], false⟩, B1.st + 1, 0, false⟩ := by
    unfold wrB
    rw [hB1]
    unfold Bn.flush
    rw [if_pos hr1]
    unfold Bn.step
    rw [ar1, if_neg (by decide), dk1, di]
    rfl
  have dv2 : ∀ j : Nat, j < m + 1 → (wrB B i sl X).dev (j : Int) = if j = i then ⟨(B.dev (i : Int)).S.set sl X, [], false⟩ else B.dev (j : Int) := fun j hj => by
    rw [e2, dev_set (by omega)]
    by_cases e : j = i
    · rw [if_pos e, if_pos e]
    · rw [if_neg e, if_neg e, dv1 j hj, if_neg e]
  refine ⟨hw, hw1, ok1, len1, ⟨?_, by rw [e2], by rw [e2], ?_, h.le, fun j hj => ?_, fun j hj => ?_⟩, dv2⟩
  · unfold wrB; rw [hB1]; exact ok2
  · rw [e2]; simpa using len1
  · rw [dv2 j (by omega)]
    by_cases e : j = i
    · rw [if_pos e]; simpa using hsz
    · rw [if_neg e]; exact h.sz j hj
  · rw [dv2 j (by omega)]
    by_cases e : j = i
    · rw [if_pos e]
    · rw [if_neg e]; exact h.lo j hj
end
def upto (N : Nat) (X : Nat) : Prop := getE X ≠ 0 ∨ sealN X ≤ N
def hasX (B : Bn) (i : Nat) (N X : Nat) : Prop := ∃ j, j < 2 ∧ sect B i j = X ∧ upto N (sect B i (1 - j))
noncomputable def slotI (A B : Nat) : Nat := if newW A B = some 0 then 1 else 0
theorem slotI_lt (A B : Nat) : slotI A B < 2 := by unfold slotI; split <;> decide
theorem slotI_eq (A B : Nat) : slotN A B = ((slotI A B : Nat) : Int) := by unfold slotN slotI; split <;> rfl
theorem hasX.new {B : Bn} {i N X : Nat} (h : hasX B i N X) (h0 : getE X = 0) (hN : sealN X = N + 1) : newC (sect B i 0) (sect B i 1) = some X := by
  have hn : numOf X = N + 1 := by unfold numOf; rw [if_pos h0, hN]
  obtain ⟨j, hj, h1, h2⟩ := h
  have lt : getE (sect B i (1 - j)) = 0 → numOf (sect B i (1 - j)) ≤ N := fun h => by
    unfold numOf
    rw [if_pos h]
    rcases h2 with h' | h'
    · exact absurd h h'
    · exact h'
  have hj' : j = 0 ∨ j = 1 := by omega
  rcases hj' with rfl | rfl
  · rw [h1]
    have lt : getE (sect B i 1) = 0 → numOf (sect B i 1) ≤ N := lt
    unfold newC newW
    rw [if_neg (fun h => h.1 h0), if_neg (fun h => by
      rcases h with h | ⟨h3, h4⟩
      · exact h h0
      · have := lt h3; omega)]
    rfl
  · rw [h1]
    have lt : getE (sect B i 0) = 0 → numOf (sect B i 0) ≤ N := lt
    unfold newC newW
    rw [if_neg (fun h => h.2 h0)]
    by_cases hA0 : getE (sect B i 0) = 0
    · rw [if_pos (.inr ⟨h0, by have := lt hA0; omega⟩)]; rfl
    · rw [if_pos (.inl hA0)]; rfl
theorem hasX.upto {B : Bn} {i N X : Nat} (h : hasX B i N X) (hN : sealN X = N + 1) : ∀ j, j < 2 → upto (N + 1) (sect B i j) := by
  obtain ⟨k, hk, h1, h2⟩ := h
  intro j hj
  by_cases e : j = k
  · subst e; rw [h1]; exact .inr (by omega)
  · have : j = 1 - k := by omega
    rw [this]
    rcases h2 with h2 | h2
    · exact .inl h2
    · exact .inr (by omega)
theorem wrB_has {m k : Nat} {B : Bn} (h : Calm m k B) {i : Nat} (hi : i < m) (hd : dead B i = false) {N X : Nat} (hu : ∀ j, j < 2 → upto N (sect B i j)) :
    hasX (wrB B i (slotI (sect B i 0) (sect B i 1)) X) i N X := by
  have hsl := slotI_lt (sect B i 0) (sect B i 1)
  obtain ⟨_, _, _, _, _, hdv⟩ := h.put hi hsl hd X
  have e := hdv i (by omega)
  rw [if_pos rfl] at e
  have hsz := h.sz i hi
  generalize slotI (sect B i 0) (sect B i 1) = sl at *
  have se : ∀ j, sect (wrB B i sl X) i j = ((B.dev (i : Int)).S.set sl X).getD j 0 := fun j => by unfold sect; rw [e]
  refine ⟨sl, hsl, ?_, ?_⟩
  · rw [se]
    simp [List.getD, show sl < (B.dev (i : Int)).S.length by omega]
  · rw [se]
    have : ((B.dev (i : Int)).S.set sl X).getD (1 - sl) 0 = sect B i (1 - sl) := by
      unfold sect
      simp only [List.getD]
      rw [List.getElem?_set_ne (by omega)]
    rw [this]
    exact hu _ (by omega)
theorem wrB_other {m k : Nat} {B : Bn} (h : Calm m k B) {i : Nat} (hi : i < m) (hd : dead B i = false) {sl : Nat} (hsl : sl < 2) (X : Nat) {j : Nat} (hj : j < m) (hne : j ≠ i) : (wrB B i sl X).dev (j : Int) = B.dev (j : Int) := by
  obtain ⟨_, _, _, _, _, hdv⟩ := h.put hi hsl hd X
  rw [hdv j (by omega), if_neg hne]
theorem wrB_dead {m k : Nat} {B : Bn} (h : Calm m k B) {i : Nat} (hi : i < m) (hd : dead B i = false) {sl : Nat} (hsl : sl < 2) (X : Nat) {j : Nat} (hj : j < m) : dead (wrB B i sl X) j = dead B j := by
  obtain ⟨_, _, _, _, _, hdv⟩ := h.put hi hsl hd X
  unfold dead
  rw [hdv j (by omega)]
  by_cases e : j = i
  · rw [if_pos e, e]; exact hd.symm
  · rw [if_neg e]
end Go.Proofs.Ytabebpemfinejaa.draft
