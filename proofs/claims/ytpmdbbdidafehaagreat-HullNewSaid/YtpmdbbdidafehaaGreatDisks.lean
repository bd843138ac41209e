import Derived.Test.YtpmdbbdidafehaaGreatProg
import Derived.Test.YtpmdbbdidafehaaGreatAmTac
/-
  A device in the machine's heap: what each of its methods does.
-/
set_option linter.unusedVariables false
set_option linter.unusedSimpArgs false
set_option maxRecDepth 10000
namespace Go.Proofs.YtpmdbbdidafehaaGreat.disk
open Go.Am

/-- (*ashlar/disk.Disk).asked -/
noncomputable def c107 : CFn := ⟨[.tmp (pp 4)],
 .seq (.reg [
 qo 4 (.p (S.get (ii 0))) []]) (
 .seq (.block 0 (.seq (.reg [
 mv 6 0,
 qo 7 (.c (callF (ff 109) [(tt 6)])) [pp 6],
 mv 5 7]) (
 .cond (tt 5) (.seq (.reg [
 qo 4 (.p (S.get (ii 1))) []]) (
 .ret)) (.seq (.reg [
 mv 9 1,
 qo 10 (.p (arF .lss (tt 9) (ii 0))) [pp 9],
 mv 11 10,
 mg 12 1 11 false,
 mg 13 0 11 false,
 qg 14 (.p (nilcF (tt 13))) 11 false [pp 13],
 qg 15 (.p (faddrF (tt 14) 0)) 11 false [pp 14],
 qg 16 (.r (loadF (tt 15) 1 .sc)) 11 false [pp 15],
 qg 17 (.p (lenF (tt 16))) 11 false [pp 16],
 qg 18 (.p (arF .geq (tt 12) (tt 17))) 11 false [pp 12, pp 17],
 qo 19 (.p (pickF (tt 11) (.c (.bool true)) (tt 18))) [pp 11, pp 18],
 mv 8 19]) (
 .cond (tt 8) (.seq (.reg [
 qo 4 (.p (S.get (ii 2))) []]) (
 .ret)) (.seq (.reg [
 mv 21 0,
 qo 22 (.p (nilcF (tt 21))) [pp 21],
 qo 23 (.p (faddrF (tt 22) 2)) [pp 22],
 qo 24 (.r (loadF (tt 23) 1 .sc)) [pp 23],
 mv 20 24]) (
 .cond (tt 20) (.seq (.reg [
 qo 4 (.p (S.get (ii 9))) []]) (
 .ret)) (.skip)))))))) (
 .seq (.reg [
 qo 4 (.p (S.get (ii 0))) []]) (
 .ret)))⟩
theorem c107_eq : fnOf Tryz.prog 107 = some c107 := by kernel_rfl

/-- (*ashlar/disk.Disk).none -/
noncomputable def c109 : CFn := ⟨[.tmp (pp 2)],
 .seq (.reg [
 qo 2 (.p (S.get (.c (.bool false)))) []]) (
 .seq (.reg [
 mv 3 0,
 qo 4 (.r (eqnF false .ptr (tt 3) (.c (.ptr none)))) [pp 3],
 mv 5 4,
 mg 6 0 5 false,
 qg 7 (.p (nilcF (tt 6))) 5 false [pp 6],
 qg 8 (.p (faddrF (tt 7) 0)) 5 false [pp 7],
 qg 9 (.r (loadF (tt 8) 1 .sc)) 5 false [pp 8],
 qg 10 (.p (lenF (tt 9))) 5 false [pp 9],
 qg 11 (.p (eqcF false false [.int .i64] (tt 10) (ii 0))) 5 false [pp 10],
 qo 12 (.p (pickF (tt 5) (.c (.bool true)) (tt 11))) [pp 5, pp 11],
 mv 2 12]) (
 .ret))⟩
theorem c109_eq : fnOf Tryz.prog 109 = some c109 := by kernel_rfl

/-- (*ashlar/disk.Disk).Sure -/
noncomputable def c90 : CFn := ⟨[.cell (pp 4) 64 .bk, .tmp (pp 5)],
 .seq (.reg [
 qo 4 (.m (allocF 64 [.blk 0])) [],
 qo 5 (.p (S.get (ii 0))) []]) (
 .seq (.seq (.reg [
 mv 7 0,
 mv 8 1,
 qo 9 (.c (callF (ff 107) [(tt 7), (tt 8)])) [pp 7, pp 8],
 mv 6 9]) (
 .seq (.reg [
 mv 10 6,
 qo 11 (.p (eqcF true false [.int .i64] (tt 10) (ii 0))) [pp 10]]) (
 .cond (tt 11) (.seq (.reg [
 qo 12 (.p (buildF [.blk 0] .bk [])) [],
 mv 13 6,
 qn (.a (storeF (tt 4) (tt 12) 64)) [pp 4, pp 12],
 mv 5 13]) (
 .ret)) (.skip)))) (
 .seq (.reg [
 mv 14 0,
 qo 15 (.p (nilcF (tt 14))) [pp 14],
 qo 16 (.p (faddrF (tt 15) 0)) [pp 15],
 qo 17 (.r (loadF (tt 16) 1 .sc)) [pp 16],
 mv 18 1,
 qo 19 (.p (iaddrSF (tt 17) (tt 18) 64)) [pp 17, pp 18],
 qo 20 (.r (loadF (tt 19) 64 .bk)) [pp 19],
 qn (.a (storeF (tt 4) (tt 20) 64)) [pp 4, pp 20],
 qo 5 (.p (S.get (ii 0))) []]) (
 .ret)))⟩
theorem c90_eq : fnOf Tryz.prog 90 = some c90 := by kernel_rfl

noncomputable def c106_l0 : C := .seq (.seq (.reg [
 mv 21 7,
 qo 22 (.p (arF .geq (tt 21) (ii 0))) [pp 21]]) (
 .cond (tt 22) (.skip) (.exit 0))) (
 .seq (.block 1 (.seq (.reg [
 mv 25 0,
 qo 26 (.p (nilcF (tt 25))) [pp 25],
 qo 27 (.p (faddrF (tt 26) 1)) [pp 26],
 qo 28 (.r (loadF (tt 27) 1 .sc)) [pp 27],
 mv 29 7,
 qo 30 (.p (iaddrSF (tt 28) (tt 29) 65)) [pp 28, pp 29],
 qo 31 (.p (faddrF (tt 30) 0)) [pp 30],
 qo 32 (.r (loadF (tt 31) 1 .sc)) [pp 31],
 mv 33 1,
 qo 34 (.p (eqcF false false [.int .i64] (tt 32) (tt 33))) [pp 32, pp 33]]) (
 .cond (tt 34) (.seq (.reg [
 mv 35 0,
 qo 36 (.p (nilcF (tt 35))) [pp 35],
 qo 37 (.p (faddrF (tt 36) 1)) [pp 36],
 qo 38 (.r (loadF (tt 37) 1 .sc)) [pp 37],
 mv 39 7,
 qo 40 (.p (iaddrSF (tt 38) (tt 39) 65)) [pp 38, pp 39],
 qo 41 (.p (faddrF (tt 40) 1)) [pp 40],
 qo 42 (.r (loadF (tt 41) 64 .bk)) [pp 41],
 qn (.a (storeF (tt 4) (tt 42) 64)) [pp 4, pp 42],
 qo 5 (.p (S.get (ii 0))) []]) (
 .ret)) (.skip)))) (
 .reg [
 mv 23 7,
 qo 24 (.p (arF .sub (tt 23) (ii 1))) [pp 23],
 mv 7 24]))
/-- (*ashlar/disk.Disk).Read -/
noncomputable def c106 : CFn := ⟨[.cell (pp 4) 64 .bk, .tmp (pp 5)],
 .seq (.reg [
 qo 4 (.m (allocF 64 [.blk 0])) [],
 qo 5 (.p (S.get (ii 0))) []]) (
 .seq (.seq (.reg [
 mv 8 0,
 mv 9 1,
 qo 10 (.c (callF (ff 107) [(tt 8), (tt 9)])) [pp 8, pp 9],
 mv 6 10]) (
 .seq (.reg [
 mv 11 6,
 qo 12 (.p (eqcF true false [.int .i64] (tt 11) (ii 0))) [pp 11]]) (
 .cond (tt 12) (.seq (.reg [
 qo 13 (.p (buildF [.blk 0] .bk [])) [],
 mv 14 6,
 qn (.a (storeF (tt 4) (tt 13) 64)) [pp 4, pp 13],
 mv 5 14]) (
 .ret)) (.skip)))) (
 .seq (.seq (.reg [
 mv 15 0,
 qo 16 (.p (nilcF (tt 15))) [pp 15],
 qo 17 (.p (faddrF (tt 16) 1)) [pp 16],
 qo 18 (.r (loadF (tt 17) 1 .sc)) [pp 17],
 qo 19 (.p (lenF (tt 18))) [pp 18],
 qo 20 (.p (arF .sub (tt 19) (ii 1))) [pp 19],
 mv 7 20]) (
 .block 0 (.loop c106_l0))) (
 .seq (.reg [
 mv 43 0,
 qo 44 (.p (nilcF (tt 43))) [pp 43],
 qo 45 (.p (faddrF (tt 44) 0)) [pp 44],
 qo 46 (.r (loadF (tt 45) 1 .sc)) [pp 45],
 mv 47 1,
 qo 48 (.p (iaddrSF (tt 46) (tt 47) 64)) [pp 46, pp 47],
 qo 49 (.r (loadF (tt 48) 64 .bk)) [pp 48],
 qn (.a (storeF (tt 4) (tt 49) 64)) [pp 4, pp 49],
 qo 5 (.p (S.get (ii 0))) []]) (
 .ret))))⟩
theorem c106_eq : fnOf Tryz.prog 106 = some c106 := by kernel_rfl

/-- (*ashlar/disk.Disk).Write -/
noncomputable def c51 : CFn := ⟨[.tmp (pp 6)],
 .seq (.reg [
 qo 5 (.m (boxF 64 (tt 2))) [pp 2],
 qo 6 (.p (S.get (ii 0))) []]) (
 .seq (.reg [
 mv 8 0,
 mv 9 1,
 qo 10 (.c (callF (ff 107) [(tt 8), (tt 9)])) [pp 8, pp 9],
 mv 7 10]) (
 .seq (.seq (.reg [
 mv 11 7,
 qo 12 (.p (eqcF false false [.int .i64] (tt 11) (ii 0))) [pp 11]]) (
 .cond (tt 12) (.regD [
 mv 13 0,
 mv 14 0,
 qo 15 (.p (nilcF (tt 14))) [pp 14],
 qo 16 (.p (faddrF (tt 15) 1)) [pp 15],
 qo 17 (.r (loadF (tt 16) 1 .sc)) [pp 16],
 mv 18 1,
 qo 19 (.r (loadF (tt 5) 64 .bk)) [pp 5],
 qo 20 (.p (buildF [.int .i64 0, .blk 0] .ag [(0, 1, (tt 18)), (1, 64, (tt 19))])) [pp 18, pp 19],
 qo 21 (.m (bsliceF 1 65 [.int .i64 0, .blk 0] [(0, 65, (tt 20))])) [pp 20],
 qo 22 (.a (appF 65 72 (tt 17) (tt 21))) [pp 17, pp 21],
 qo 23 (.p (nilcF (tt 13))) [pp 13],
 qo 24 (.p (faddrF (tt 23) 1)) [pp 23],
 qn (.a (storeF (tt 24) (tt 22) 1)) [pp 24, pp 22]] [0, 0, 2, 6, 14, 0, 0, 96, 224, 510, 1023, 2047, 4095]) (.skip))) (
 .seq (.reg [
 mv 25 7,
 mv 6 25]) (
 .ret))))⟩
theorem c51_eq : fnOf Tryz.prog 51 = some c51 := by kernel_rfl

noncomputable def c61_l0 : C := .seq (.reg [
 qo 17 (.p (arF .lss (tt 16) (tt 15))) [pp 16, pp 15]]) (
 .seq (.cond (tt 17) (.skip) (.exit 0)) (
 .seq (.block 1 (.seq (.reg [
 qo 18 (.p (iaddrSF (tt 14) (tt 16) 65)) [pp 14, pp 16],
 qo 19 (.r (loadF (tt 18) 65 .ag)) [pp 18],
 qo 5 (.m (allocF 65 [.int .i64 0, .blk 0])) [],
 qn (.a (storeF (tt 5) (tt 19) 65)) [pp 5, pp 19]]) (
 .regD [
 mv 20 0,
 qo 21 (.p (nilcF (tt 20))) [pp 20],
 qo 22 (.p (faddrF (tt 21) 0)) [pp 21],
 qo 23 (.r (loadF (tt 22) 1 .sc)) [pp 22],
 qo 24 (.p (faddrF (tt 5) 0)) [pp 5],
 qo 25 (.r (loadF (tt 24) 1 .sc)) [pp 24],
 qo 26 (.p (faddrF (tt 5) 1)) [pp 5],
 qo 27 (.r (loadF (tt 26) 64 .bk)) [pp 26],
 qo 28 (.p (iaddrSF (tt 23) (tt 25) 64)) [pp 23, pp 25],
 qn (.a (storeF (tt 28) (tt 27) 64)) [pp 28, pp 27]] [0, 1, 3, 7, 0, 16, 0, 64, 255, 511]))) (
 .reg [
 qo 29 (.p (arF .add (tt 16) (ii 1))) [pp 16],
 mv 16 29])))
/-- (*ashlar/disk.Disk).Flush -/
noncomputable def c61 : CFn := ⟨[.tmp (pp 2)],
 .seq (.reg [
 qo 2 (.p (S.get (ii 0))) []]) (
 .seq (.reg [
 mv 6 0,
 qo 7 (.c (callF (ff 107) [(tt 6), (ii 0)])) [pp 6],
 mv 3 7]) (
 .seq (.seq (.reg [
 mv 8 3,
 qo 9 (.p (eqcF true false [.int .i64] (tt 8) (ii 0))) [pp 8]]) (
 .cond (tt 9) (.seq (.reg [
 mv 10 3,
 mv 2 10]) (
 .ret)) (.skip))) (
 .seq (.seq (.reg [
 mv 11 0,
 qo 12 (.p (nilcF (tt 11))) [pp 11],
 qo 13 (.p (faddrF (tt 12) 1)) [pp 12],
 qo 14 (.r (loadF (tt 13) 1 .sc)) [pp 13],
 qo 15 (.p (lenF (tt 14))) [pp 14],
 qo 16 (.p (S.get (ii 0))) []]) (
 .block 0 (.loop c61_l0))) (
 .seq (.reg [
 mv 30 0,
 qo 31 (.p (nilcF (tt 30))) [pp 30],
 qo 32 (.p (faddrF (tt 31) 1)) [pp 31],
 qn (.a (storeF (tt 32) (.c (.slice none 0 0 0)) 1)) [pp 32]]) (
 .seq (.reg [
 qo 2 (.p (S.get (ii 0))) []]) (
 .ret))))))⟩
theorem c61_eq : fnOf Tryz.prog 61 = some c61 := by kernel_rfl

/-- ashlar/disk.New -/
noncomputable def c73 : CFn := ⟨[.tmp (pp 2), .tmp (pp 3)],
 .seq (.reg [
 qo 2 (.p (S.get (.c (.ptr none)))) [],
 qo 3 (.p (S.get (ii 0))) []]) (
 .seq (.seq (.reg [
 mv 4 0,
 qo 5 (.p (arF .lss (tt 4) (ii 1))) [pp 4],
 mv 6 5,
 mg 7 0 6 false,
 qg 8 (.p (arF .gtr (tt 7) (ii 512))) 6 false [pp 7],
 qo 9 (.p (pickF (tt 6) (.c (.bool true)) (tt 8))) [pp 6, pp 8]]) (
 .cond (tt 9) (.seq (.reg [
 qo 2 (.p (S.get (.c (.ptr none)))) [],
 qo 3 (.p (S.get (ii 2))) []]) (
 .ret)) (.skip))) (
 .seq (.reg [
 mv 10 0,
 qo 11 (.m (mksliceF 64 64 [.blk 0] (tt 10) (tt 10))) [pp 10, pp 10],
 qo 12 (.p (buildF [.slice none 0 0 0, .slice none 0 0 0, .bool false] .ag [(0, 1, (tt 11))])) [pp 11],
 qo 13 (.m (boxF 3 (tt 12))) [pp 12],
 mv 2 13,
 qo 3 (.p (S.get (ii 0))) []]) (
 .ret)))⟩
theorem c73_eq : fnOf Tryz.prog 73 = some c73 := by kernel_rfl


def sureRows (S : List Nat) : List (List V) := S.map fun x => [.blk x]
def looseRows (L : List (Nat × Nat)) : List (List V) := L.map fun w => [.int .i64 (w.1 : Int), .blk w.2]
structure Dev where
  S : List Nat
  L : List (Nat × Nat)
  dead : Bool
structure Lay where
  s : Bk
  so : Nat
  l : Bk
  p : Option Ptr
  o : Nat
structure DevAt (H : Heap) (b : Bk) (y : Lay) (D : Dev) : Prop where
  own : H.get b = some (.rows false 3 [[.slice (some ⟨y.s, 0⟩) D.S.length D.S.length y.so, .slice y.p D.L.length D.L.length y.o, .bool D.dead]])
  sure : H.get y.s = some (.rows false 64 (sureRows D.S))
  nil : D.L = [] → y.p = none ∧ y.o = 0
  loose : D.L ≠ [] → y.p = some ⟨y.l, 0⟩ ∧ y.o = 65 ∧ H.get y.l = some (.rows false 65 (looseRows D.L))
  old : H.Old b ∧ H.Old y.s ∧ (D.L ≠ [] → H.Old y.l)
  ne : b ≠ y.s ∧ (D.L ≠ [] → b ≠ y.l ∧ y.s ≠ y.l)

theorem DevAt.turns {H H' : Heap} {b : Bk} {y : Lay} {D : Dev} (h : DevAt H b y D) {X : Bk → Prop} (k : Turns X H H') (h1 : ¬ X b) (h2 : ¬ X y.s) (h3 : D.L ≠ [] → ¬ X y.l) : DevAt H' b y D := by
  obtain ⟨o1, o2, o3⟩ := h.old
  exact ⟨(k.same b o1 h1).trans h.own, (k.same y.s o2 h2).trans h.sure, h.nil, fun e => ⟨(h.loose e).1, (h.loose e).2.1, (k.same y.l (o3 e) (h3 e)).trans (h.loose e).2.2⟩, ⟨o1.mono k.next, o2.mono k.next, fun e => (o3 e).mono k.next⟩, h.ne⟩

section
variable {H : Heap} {b : Bk} {y : Lay} {D : Dev} (h : DevAt H b y D)
include h
theorem load0 : loadAt H ⟨b, 0⟩ 1 = some [.slice (some ⟨y.s, 0⟩) D.S.length D.S.length y.so] := by
  rw [loadAt_eq h.own rfl]; exact cut_hit _ _ rfl
theorem load1 : loadAt H ⟨b, 1⟩ 1 = some [.slice y.p D.L.length D.L.length y.o] := by
  rw [loadAt_eq h.own (by exact rfl), show 1 % 3 = 0 + 1 from rfl, cut_miss (n := 0) _ _ _ (by rfl)]; exact cut_hit _ _ rfl
theorem load2 : loadAt H ⟨b, 2⟩ 1 = some [.bool D.dead] := by
  rw [loadAt_eq h.own (by exact rfl), show 2 % 3 = 1 + 1 from rfl, cut_miss (n := 0) _ _ _ (by rfl), show 1 = 0 + 1 from rfl, cut_miss (n := 0) _ _ _ (by rfl)]; exact cut_hit _ _ rfl
theorem loadS {n : Nat} (hn : n < D.S.length) : loadAt H ⟨y.s, n * 64⟩ 64 = some [.blk D.S[n]] := by
  rw [loadAt_eq h.sure (r := [.blk D.S[n]]) (nth_of (by simp [sureRows, hn])), Nat.mul_mod_left]
  exact cut_blk _ _
end

def Z : Bk → Prop := fun _ => False
abbrev S0 : CallT := sumT 27

theorem none_ret {H : Heap} {b : Bk} {y : Lay} {D : Dev} (h : DevAt H b y D) (hS : D.S ≠ []) (lf m : Nat) : ret (callS Tryz.prog S0 lf (m + 1) 109 [.ptr (some ⟨b, 0⟩)] H) fun v H' => v = .bool false ∧ H' = H := by
  have h0 := load0 h
  have hlen : D.S.length ≠ 0 := by simpa using hS
  refine ret_call rfl c109_eq ?_
  simp only [c109, h0, sy, tup, ↓reduceIte, Nat.reduceEqDiff, Nat.reduceAdd, Nat.reduceSub, Nat.reduceMul, Nat.reduceDiv, Nat.reduceMod, Nat.reduceLeDiff, Int.reduceBEq, reduceCtorEq]
  simp [hS]

theorem asked_ok {H : Heap} {b : Bk} {y : Lay} {D : Dev} (h : DevAt H b y D) {n : Nat} (hn : n < D.S.length) (hd : D.dead = false) (lf m : Nat) : ret (callS Tryz.prog S0 lf (m + 2) 107 [.ptr (some ⟨b, 0⟩), .int .i64 (n : Int)] H) fun v H' => v = .int .i64 0 ∧ H' = H := by
  have h0 := load0 h
  have h2 := load2 h
  have hS : D.S ≠ [] := fun e => by rw [e] at hn; simp at hn
  have hlt : ¬ ((n : Int) < 0) := by omega
  have hge : ¬ (D.S.length ≤ n) := by omega
  refine ret_call rfl c107_eq ?_
  obtain ⟨v, H1, e, rfl, rfl⟩ := none_ret h hS lf m
  simp only [c107, e, h0, h2, hd, hlt, hge, sy, tup, ↓reduceIte, Nat.reduceEqDiff, Nat.reduceAdd, Nat.reduceSub, Nat.reduceMul, Nat.reduceDiv, Nat.reduceMod, Nat.reduceLeDiff, Int.reduceBEq, reduceCtorEq]
  simp

theorem sure_ok {H : Heap} {b : Bk} {y : Lay} {D : Dev} (h : DevAt H b y D) {n : Nat} (hn : n < D.S.length) (hd : D.dead = false) (lf m : Nat) : ret (callS Tryz.prog S0 lf (m + 3) 90 [.ptr (some ⟨b, 0⟩), .int .i64 (n : Int)] H) fun v H' => v = .tuple [.blk D.S[n], .int .i64 0] ∧ Turns Z H H' := by
  have t1 := Turns.add Z H (.rows false 64 [[.blk 0]])
  have h' := h.turns t1 id id (fun _ => id)
  have h0 := load0 h'
  have hs := loadS h' hn
  have hn1 : n + 1 ≤ D.S.length := hn
  refine ret_call rfl c90_eq ?_
  obtain ⟨v, H1, e, rfl, e1⟩ := asked_ok h' hn hd lf m
  subst e1
  simp only [c90, e, h0, hs, hn1, sy, tup, ↓reduceIte, Nat.reduceEqDiff, Nat.reduceAdd, Nat.reduceSub, Nat.reduceMul, Nat.reduceDiv, Nat.reduceMod, Nat.reduceLeDiff, Int.reduceBEq, reduceCtorEq]
  simp
  exact t1.setnew (Nat.le_refl _) _

/-- what was written last to a sector -/
def look : List (Nat × Nat) → Nat → Option Nat
  | [], _ => none
  | w :: l, n => match look l n with
    | some x => some x
    | none => if w.1 = n then some w.2 else none

theorem look_none : ∀ {l : List (Nat × Nat)} {n : Nat}, (∀ w ∈ l, w.1 ≠ n) → look l n = none
  | [], n, _ => rfl
  | w :: l, n, h => by
    unfold look
    rw [look_none (fun v hv => h v (List.mem_cons_of_mem _ hv))]
    exact if_neg (h w (List.mem_cons_self ..))
theorem look_at : ∀ {l : List (Nat × Nat)} {n k : Nat} (hk : k < l.length), l[k].1 = n → (∀ j, (hj : j < l.length) → k < j → l[j].1 ≠ n) → look l n = some l[k].2
  | w :: l, n, 0, hk, h1, h2 => by
    unfold look
    rw [look_none (fun v hv => by
      obtain ⟨j, hj, rfl⟩ := List.getElem_of_mem hv
      exact h2 (j + 1) (by simpa using hj) (by omega))]
    exact if_pos h1
  | w :: l, n, k + 1, hk, h1, h2 => by
    unfold look
    rw [look_at (l := l) (k := k) (by simpa using hk) h1 (fun j hj hlt => h2 (j + 1) (by simpa using hj) (by omega))]
    rfl

noncomputable def readN (D : Dev) (n : Nat) : Nat := match look D.L n with
  | some x => x
  | none => D.S.getD n 0

section
variable {H : Heap} {b : Bk} {y : Lay} {D : Dev} (h : DevAt H b y D)
include h
theorem loadL1 {k : Nat} (hk : k < D.L.length) : loadAt H ⟨y.l, k * 65⟩ 1 = some [.int .i64 (D.L[k].1 : Int)] := by
  have hne : D.L ≠ [] := fun e => by rw [e] at hk; simp at hk
  rw [loadAt_eq (h.loose hne).2.2 (r := [.int .i64 (D.L[k].1 : Int), .blk D.L[k].2]) (nth_of (by simp [looseRows, hk])), Nat.mul_mod_left]
  exact cut_hit _ _ rfl
theorem loadL2 {k : Nat} (hk : k < D.L.length) : loadAt H ⟨y.l, k * 65 + 1⟩ 64 = some [.blk D.L[k].2] := by
  have hne : D.L ≠ [] := fun e => by rw [e] at hk; simp at hk
  have e1 : (k * 65 + 1) / 65 = k := by omega
  have e2 : (k * 65 + 1) % 65 = 0 + 1 := by omega
  rw [loadAt_eq (h.loose hne).2.2 (r := [.int .i64 (D.L[k].1 : Int), .blk D.L[k].2]) (nth_of (by rw [e1]; simp [looseRows, hk])), e2, cut_miss (n := 63) _ _ _ (by rfl)]
  exact cut_blk _ _
end

theorem read_ok {H : Heap} {b : Bk} {y : Lay} {D : Dev} (h : DevAt H b y D) {n : Nat} (hn : n < D.S.length) (hd : D.dead = false) {lf : Nat} (hlf : D.L.length + 1 < lf) (hmax : D.L.length < 1000000) (m : Nat) : ret (callS Tryz.prog S0 lf (m + 3) 106 [.ptr (some ⟨b, 0⟩), .int .i64 (n : Int)] H) fun v H' => v = .tuple [.blk (readN D n), .int .i64 0] ∧ Turns Z H H' := by
  have t1 := Turns.add Z H (.rows false 64 [[.blk 0]])
  have h' := h.turns t1 id id (fun _ => id)
  have h0 := load0 h'
  have h1 := load1 h'
  have hs := loadS h' hn
  have hn1 : n + 1 ≤ D.S.length := hn
  refine ret_call rfl c106_eq ?_
  obtain ⟨v, H1, e, rfl, e1⟩ := asked_ok h' hn hd lf m
  subst e1
  have hloop : ∀ t : T, t.getP (Tr.path 0) = some (.ptr (some ⟨b, 0⟩)) → t.getP (Tr.path 1) = some (.int .i64 (n : Int)) → t.getP (Tr.path 4) = some (.ptr (some ⟨.run H.next, 0⟩)) → t.getP (Tr.path 7) = some (.int .i64 ((D.L.length : Int) - 1)) →
      wp (loopF (runC (callS Tryz.prog S0 lf (m + 2)) lf c106_l0) lf ⟨t, H.add (.rows false 64 [[.blk 0]]), []⟩) fun x s =>
        (x = .ex 0 ∧ look D.L n = none ∧ s.H = H.add (.rows false 64 [[.blk 0]]) ∧ s.d = [] ∧ s.t.getP (Tr.path 0) = some (.ptr (some ⟨b, 0⟩)) ∧ s.t.getP (Tr.path 1) = some (.int .i64 (n : Int)) ∧ s.t.getP (Tr.path 4) = some (.ptr (some ⟨.run H.next, 0⟩))) ∨
        (x = .ret ∧ ∃ v, look D.L n = some v ∧ s.H = (H.add (.rows false 64 [[.blk 0]])).set (.run H.next) (.rows false 64 [[.blk v]]) ∧ s.d = [] ∧ s.t.getP (Tr.path 4) = some (.ptr (some ⟨.run H.next, 0⟩)) ∧ s.t.getP (Tr.path 5) = some (.int .i64 0)) := by
    intro t q0 q1 q4 q7
    refine wp_loopF (fun k s => k ≤ D.L.length ∧ s.H = H.add (.rows false 64 [[.blk 0]]) ∧ s.d = [] ∧ s.t.getP (Tr.path 0) = some (.ptr (some ⟨b, 0⟩)) ∧ s.t.getP (Tr.path 1) = some (.int .i64 (n : Int)) ∧ s.t.getP (Tr.path 4) = some (.ptr (some ⟨.run H.next, 0⟩)) ∧ s.t.getP (Tr.path 7) = some (.int .i64 ((k : Int) - 1)) ∧ ∀ j, (hj : j < D.L.length) → k ≤ j → D.L[j].1 ≠ n) ?_ lf D.L.length _ ⟨Nat.le_refl _, rfl, rfl, q0, q1, q4, q7, fun j hj hk => absurd hj (by omega)⟩ (by omega)
    rintro k ⟨t, HH, d⟩ ⟨hk, rfl, rfl, q0, q1, q4, q7, hall⟩
    dsimp only at q0 q1 q4 q7
    cases k with
    | zero =>
      have hg : ¬ ((0 : Int) ≤ ((0 : Nat) : Int) - 1) := by decide
      have hl : look D.L n = none := look_none (by intro w hw; obtain ⟨j, hj, rfl⟩ := List.getElem_of_mem hw; exact hall j hj (by omega))
      simp only [c106_l0, q0, q1, q4, q7, hg, hl, sy, tup, ↓reduceIte, Nat.reduceEqDiff, Nat.reduceAdd, Nat.reduceSub, Nat.reduceMul, Nat.reduceDiv, Nat.reduceMod, Nat.reduceLeDiff, Int.reduceBEq, reduceCtorEq]
      simp
    | succ k =>
      have hk' : k < D.L.length := hk
      have hp := (h.loose (fun e => by rw [e] at hk'; simp at hk')).1
      have l1 := loadL1 h' hk'
      have l2 := loadL2 h' hk'
      have hg : ((k + 1 : Nat) : Int) - 1 = (k : Int) := by omega
      rw [hg] at q7
      have hge : (0 : Int) ≤ (k : Int) := by omega
      have hw : IntKind.i64.wrap ((k : Int) - 1) = (k : Int) - 1 := wrap_i64 (by omega)
      by_cases hx : D.L[k].1 = n
      · have hl : look D.L n = some D.L[k].2 := look_at hk' hx (fun j hj hlt => hall j hj hlt)
        simp only [c106_l0, q0, q1, q4, q7, hge, h1, hp, l1, l2, hk, hx, hw, hl, sy, tup, ↓reduceIte, Nat.reduceEqDiff, Nat.reduceAdd, Nat.reduceSub, Nat.reduceMul, Nat.reduceDiv, Nat.reduceMod, Nat.reduceLeDiff, Int.reduceBEq, reduceCtorEq]
        simp
      · have hx' : (((D.L[k].1 : Nat) : Int) == (n : Int)) = false := by simp; omega
        simp only [c106_l0, q0, q1, q4, q7, hge, h1, hp, l1, l2, hk, hx', hw, sy, tup, ↓reduceIte, Nat.reduceEqDiff, Nat.reduceAdd, Nat.reduceSub, Nat.reduceMul, Nat.reduceDiv, Nat.reduceMod, Nat.reduceLeDiff, Int.reduceBEq, reduceCtorEq]
        refine ⟨k, Nat.lt_succ_self k, by omega, trivial, trivial, trivial, trivial, trivial, rfl, fun j hj hkj => ?_⟩
        by_cases e : j = k
        · subst e; exact hx
        · exact hall j hj (by omega)
  have hw : IntKind.i64.wrap ((D.L.length : Int) - 1) = (D.L.length : Int) - 1 := wrap_i64 (by omega)
  simp only [c106, e, h0, h1, hs, hn1, hw, sy, tup, ↓reduceIte, Nat.reduceEqDiff, Nat.reduceAdd, Nat.reduceSub, Nat.reduceMul, Nat.reduceDiv, Nat.reduceMod, Nat.reduceLeDiff, Int.reduceBEq, reduceCtorEq]
  refine wp_ctx (F := fun r => seqC _ _ _ (blockC _ r)) (hloop _ ?_ ?_ ?_ ?_) ?_
  · simp only [sy, tup, ↓reduceIte, Nat.reduceEqDiff, Nat.reduceAdd, Nat.reduceSub, Nat.reduceMul, Nat.reduceDiv, Nat.reduceMod, Nat.reduceLeDiff, Int.reduceBEq, reduceCtorEq]
  · simp only [sy, tup, ↓reduceIte, Nat.reduceEqDiff, Nat.reduceAdd, Nat.reduceSub, Nat.reduceMul, Nat.reduceDiv, Nat.reduceMod, Nat.reduceLeDiff, Int.reduceBEq, reduceCtorEq]
  · simp only [sy, tup, ↓reduceIte, Nat.reduceEqDiff, Nat.reduceAdd, Nat.reduceSub, Nat.reduceMul, Nat.reduceDiv, Nat.reduceMod, Nat.reduceLeDiff, Int.reduceBEq, reduceCtorEq]
  · simp only [sy, tup, ↓reduceIte, Nat.reduceEqDiff, Nat.reduceAdd, Nat.reduceSub, Nat.reduceMul, Nat.reduceDiv, Nat.reduceMod, Nat.reduceLeDiff, Int.reduceBEq, reduceCtorEq]
  rintro x ⟨t, HH, d⟩ (⟨rfl, hlk, rfl, rfl, q0, q1, q4⟩ | ⟨rfl, v, hlk, rfl, rfl, q4, q5⟩)
  · dsimp only at q0 q1 q4
    simp only [c106, q0, q1, q4, h0, hs, hn1, sy, tup, ↓reduceIte, Nat.reduceEqDiff, Nat.reduceAdd, Nat.reduceSub, Nat.reduceMul, Nat.reduceDiv, Nat.reduceMod, Nat.reduceLeDiff, Int.reduceBEq, reduceCtorEq]
    simp
    exact ⟨by simp [readN, hlk, hn], t1.setnew (Nat.le_refl _) _⟩
  · dsimp only at q4 q5
    simp only [q4, q5, sy, tup, ↓reduceIte, Nat.reduceEqDiff, Nat.reduceAdd, Nat.reduceSub, Nat.reduceMul, Nat.reduceDiv, Nat.reduceMod, Nat.reduceLeDiff, Int.reduceBEq, reduceCtorEq]
    simp
    exact ⟨by simp [readN, hlk], t1.setnew (Nat.le_refl _) _⟩

def Foot (b : Bk) (y : Lay) (D : Dev) : Bk → Prop := fun c => c = b ∨ c = y.s ∨ (D.L ≠ [] ∧ c = y.l)

/-- a device behind a method that turned it -/
structure Next (H : Heap) (b : Bk) (y : Lay) (D : Dev) (H' : Heap) (y' : Lay) (D' : Dev) : Prop where
  dev : DevAt H' b y' D'
  turns : Turns (Foot b y D) H H'
  s : y'.s = y.s
  l : D'.L ≠ [] → (D.L ≠ [] ∧ y'.l = y.l) ∨ ¬ H.Old y'.l

noncomputable def killed (H : Heap) (y : Lay) (D : Dev) : Heap := match D.L with
  | [] => H
  | _ :: _ => H.set y.l .dead

theorem app_dev {H : Heap} {b : Bk} {y : Lay} {D : Dev} (h : DevAt H b y D) (hmax : D.L.length < 1000000) {x : Bk} {n B : Nat} (hx : H.get x = some (.rows false 65 [[.int .i64 (n : Int), .blk B]])) :
    appendV 65 72 H (.slice y.p D.L.length D.L.length y.o) (.slice (some ⟨x, 0⟩) 1 1 0) = some (.slice (some ⟨.run H.next, 0⟩) (D.L.length + 1) (D.L.length + 1) 65, (killed H y D).add (.rows false 65 (looseRows (D.L ++ [(n, B)])))) := by
  have he : elems H x 65 1 0 = some [[.int .i64 (n : Int), .blk B]] := by
    simp only [elems]
    rw [loadAt_eq hx (r := [.int .i64 (n : Int), .blk B]) rfl, cut_whole]
    rfl
  by_cases hL : D.L = []
  · obtain ⟨hp, ho⟩ := h.nil hL
    rw [hp, ho]
    simp only [appendV, lenOf, nbeq, nble, firstE, he, killed, hL]
    simp [elems, looseRows]
  · obtain ⟨hp, ho, hg⟩ := h.loose hL
    rw [hp, ho]
    have hk : killed H y D = H.set y.l .dead := by unfold killed; cases hD : D.L with
      | nil => exact absurd hD hL
      | cons w l => rfl
    have hlen : (looseRows D.L).length = D.L.length := by simp [looseRows]
    simp only [appendV, lenOf, nbeq, nble, firstE, he, hg, hk]
    have e1 : (D.L.length + 1) * 72 ≤ 1099511627776 := by omega
    have e2 : D.L.length + 1 ≤ 1099511627776 := by omega
    simp [mul_eq, add_eq, div_eq, e1, e2, hlen, looseRows]

theorem killed_next (H : Heap) (y : Lay) (D : Dev) : (killed H y D).next = H.next := by unfold killed; cases D.L <;> rfl
theorem killed_get {H : Heap} {y : Lay} {D : Dev} {c : Bk} (hc : D.L ≠ [] → c ≠ y.l) : (killed H y D).get c = H.get c := by
  unfold killed
  cases hD : D.L with
  | nil => rfl
  | cons w l => exact (Heap.get_set ..).trans (if_neg (hc (by rw [hD]; exact List.cons_ne_nil _ _)))
theorem killed_turns (H : Heap) (b : Bk) (y : Lay) (D : Dev) : Turns (Foot b y D) H (killed H y D) := by
  unfold killed
  cases hD : D.L with
  | nil => exact Turns.refl _ _
  | cons w l => exact Turns.set (.inr (.inr ⟨by rw [hD]; exact List.cons_ne_nil _ _, rfl⟩)) _ _

theorem put_own (a c d v : V) (ha : a.asBlk = none) (hc : c.asBlk = none) (hv : v.flat = true) : put [a, c, d] 1 [v] = some [a, v, d] := by
  rw [show 1 = 0 + 1 from rfl, put_miss _ _ _ _ _ ha, put_hit _ _ _ hc hv]; rfl

theorem write_ok {H : Heap} {b : Bk} {y : Lay} {D : Dev} (h : DevAt H b y D) {n : Nat} (hn : n < D.S.length) (hd : D.dead = false) (hmax : D.L.length < 1000000) (B : Nat) (lf m : Nat) :
    ret (callS Tryz.prog S0 lf (m + 3) 51 [.ptr (some ⟨b, 0⟩), .int .i64 (n : Int), .blk B] H) fun v H' => v = .int .i64 0 ∧ ∃ y', Next H b y D H' y' { D with L := D.L ++ [(n, B)] } := by
  have t1 := Turns.add Z H (.rows false 64 [[.blk B]])
  have h' := h.turns t1 id id (fun _ => id)
  have t2 := t1.addm (.rows false 65 [[.int .i64 (n : Int), .blk B]])
  have h'' := h.turns t2 id id (fun _ => id)
  have l1 := load1 h'
  have hx : ((H.add (.rows false 64 [[.blk B]])).add (.rows false 65 [[.int .i64 (n : Int), .blk B]])).get (.run (H.next + 1)) = some (.rows false 65 [[.int .i64 (n : Int), .blk B]]) := by
    rw [Heap.get_add, if_pos (by simp)]
  have ha := app_dev h'' hmax hx
  refine ret_call rfl c51_eq ?_
  obtain ⟨v, H1, e, rfl, e1⟩ := asked_ok h' hn hd lf m
  subst e1
  have hst : storeAt ((killed ((H.add (.rows false 64 [[.blk B]])).add (.rows false 65 [[.int .i64 (n : Int), .blk B]])) y D).add (.rows false 65 (looseRows (D.L ++ [(n, B)])))) ⟨b, 1⟩ [.slice (some ⟨.run (H.next + 1 + 1), 0⟩) (D.L.length + 1) (D.L.length + 1) 65] = some (((killed ((H.add (.rows false 64 [[.blk B]])).add (.rows false 65 [[.int .i64 (n : Int), .blk B]])) y D).add (.rows false 65 (looseRows (D.L ++ [(n, B)])))).set b (.rows false 3 [[.slice (some ⟨y.s, 0⟩) D.S.length D.S.length y.so, .slice (some ⟨.run (H.next + 1 + 1), 0⟩) (D.L.length + 1) (D.L.length + 1) 65, .bool D.dead]])) := by
    have hg : ((killed ((H.add (.rows false 64 [[.blk B]])).add (.rows false 65 [[.int .i64 (n : Int), .blk B]])) y D).add (.rows false 65 (looseRows (D.L ++ [(n, B)])))).get b = some (.rows false 3 [[.slice (some ⟨y.s, 0⟩) D.S.length D.S.length y.so, .slice y.p D.L.length D.L.length y.o, .bool D.dead]]) := by
      rw [Heap.get_add, if_neg (fun e : b = _ => Heap.not_old (Nat.le_refl _) (by rw [← killed_next _ y D, ← e]; exact h''.old.1)), killed_get (fun hL => (h.ne.2 hL).1), h''.own]
    exact storeAt_eq hg (r := [.slice (some ⟨y.s, 0⟩) D.S.length D.S.length y.so, .slice y.p D.L.length D.L.length y.o, .bool D.dead]) rfl (put_own _ _ _ _ rfl rfl rfl)
  simp only [c51, e, l1, ha, hst, sy, tup, ↓reduceIte, Nat.reduceEqDiff, Nat.reduceAdd, Nat.reduceSub, Nat.reduceMul, Nat.reduceDiv, Nat.reduceMod, Nat.reduceLeDiff, Int.reduceBEq, reduceCtorEq]
  rw [endD_ok (by kernel_rfl) (by kernel_rfl)]
  simp only [sy, tup, ↓reduceIte, Nat.reduceEqDiff, Nat.reduceAdd, Nat.reduceSub, Nat.reduceMul, Nat.reduceDiv, Nat.reduceMod, Nat.reduceLeDiff, Int.reduceBEq, reduceCtorEq]
  refine ⟨trivial, .inr trivial, _, rfl, rfl, ⟨y.s, y.so, .run (H.next + 1 + 1), some ⟨.run (H.next + 1 + 1), 0⟩, 65⟩, ?_⟩
  have hn2 : ((H.add (.rows false 64 [[.blk B]])).add (.rows false 65 [[.int .i64 (n : Int), .blk B]])).next = H.next + 1 + 1 := by simp
  have hnew : ∀ c, H.Old c → c ≠ .run (H.next + 1 + 1) := fun c hc e => Heap.not_old (H := H) (n := H.next + 1 + 1) (by omega) (e ▸ hc)
  obtain ⟨o1, o2, o3⟩ := h.old
  refine ⟨⟨?_, ?_, fun hL => absurd hL (by simp), fun _ => ⟨rfl, rfl, ?_⟩, ⟨?_, ?_, fun _ => ?_⟩, h.ne.1, fun _ => ⟨hnew _ o1, hnew _ o2⟩⟩, ?_, rfl, fun _ => .inr (Heap.not_old (by omega))⟩
  · rw [Heap.get_set, if_pos rfl]; simp
  · rw [Heap.get_set, if_neg (Ne.symm h.ne.1), Heap.get_add, killed_next, hn2, if_neg (hnew _ o2), killed_get (fun hL => (h.ne.2 hL).2)]
    exact h''.sure
  · rw [Heap.get_set, if_neg (fun e => hnew _ o1 e.symm), Heap.get_add, killed_next, hn2, if_pos rfl]
  · exact o1.mono (by simp [killed_next]; omega)
  · exact o2.mono (by simp [killed_next]; omega)
  · show _ < _
    simp [killed_next]
  · exact (((t2.wide (fun c hc => hc.elim)).trans (killed_turns _ b y D)).addm _).setm (.inl rfl) _

theorem DevAt.setS {H : Heap} {b : Bk} {y : Lay} {D : Dev} (h : DevAt H b y D) {S' : List Nat} (hl : S'.length = D.S.length) : DevAt (H.set y.s (.rows false 64 (sureRows S'))) b y { D with S := S' } := by
  refine ⟨?_, ?_, h.nil, fun e => ⟨(h.loose e).1, (h.loose e).2.1, ?_⟩, ?_, h.ne⟩
  · rw [Heap.get_set, if_neg h.ne.1, h.own, hl]
  · rw [Heap.get_set, if_pos rfl]
  · rw [Heap.get_set, if_neg (Ne.symm (h.ne.2 e).2)]; exact (h.loose e).2.2
  · simpa using h.old

theorem DevAt.clear {H : Heap} {b : Bk} {y : Lay} {D : Dev} (h : DevAt H b y D) (dead : Bool) : DevAt (H.set b (.rows false 3 [[.slice (some ⟨y.s, 0⟩) D.S.length D.S.length y.so, .slice none 0 0 0, .bool dead]])) b { y with p := none, o := 0 } { D with L := [], dead := dead } := by
  refine ⟨?_, ?_, fun _ => ⟨rfl, rfl⟩, fun e => absurd rfl e, ⟨?_, ?_, fun e => absurd rfl e⟩, h.ne.1, fun e => absurd rfl e⟩
  · rw [Heap.get_set, if_pos rfl]; rfl
  · rw [Heap.get_set, if_neg (Ne.symm h.ne.1)]; exact h.sure
  · simpa using h.old.1
  · simpa using h.old.2.1

section
variable {H : Heap} {b : Bk} {y : Lay} {D : Dev} (h : DevAt H b y D)
include h
theorem loadLw {k : Nat} (hk : k < D.L.length) : loadAt H ⟨y.l, k * 65⟩ 65 = some [.int .i64 (D.L[k].1 : Int), .blk D.L[k].2] := by
  have hne : D.L ≠ [] := fun e => by rw [e] at hk; simp at hk
  rw [loadAt_eq (h.loose hne).2.2 (r := [.int .i64 (D.L[k].1 : Int), .blk D.L[k].2]) (nth_of (by simp [looseRows, hk])), Nat.mul_mod_left]
  rfl
theorem storeS {n : Nat} (hn : n < D.S.length) (B : Nat) : storeAt H ⟨y.s, n * 64⟩ [.blk B] = some (H.set y.s (.rows false 64 (sureRows (D.S.set n B)))) := by
  rw [storeAt_eq h.sure (r := [.blk D.S[n]]) (r' := [.blk B]) (nth_of (by simp [sureRows, hn])) (by rw [Nat.mul_mod_left]; exact put_blk _ _ _)]
  simp [sureRows, List.map_set]
theorem storeNil : storeAt H ⟨b, 1⟩ [.slice none 0 0 0] = some (H.set b (.rows false 3 [[.slice (some ⟨y.s, 0⟩) D.S.length D.S.length y.so, .slice none 0 0 0, .bool D.dead]])) :=
  storeAt_eq h.own (r := [.slice (some ⟨y.s, 0⟩) D.S.length D.S.length y.so, .slice y.p D.L.length D.L.length y.o, .bool D.dead]) rfl (put_own _ _ _ _ rfl rfl rfl)
end

def flushS (S : List Nat) (L : List (Nat × Nat)) : List Nat := L.foldl (fun S w => S.set w.1 w.2) S
theorem flushS_length : ∀ (L : List (Nat × Nat)) (S : List Nat), (flushS S L).length = S.length
  | [], S => rfl
  | w :: L, S => (flushS_length L (S.set w.1 w.2)).trans (by simp)
theorem flushS_take {L : List (Nat × Nat)} {i : Nat} (hi : i < L.length) (S : List Nat) : flushS S (L.take (i + 1)) = (flushS S (L.take i)).set L[i].1 L[i].2 := by
  unfold flushS
  rw [List.take_succ_eq_append_getElem hi, List.foldl_append]; rfl

theorem flush_ok {H : Heap} {b : Bk} {y : Lay} {D : Dev} (h : DevAt H b y D) (hS : D.S ≠ []) (hd : D.dead = false) (hok : ∀ w ∈ D.L, w.1 < D.S.length) (hmax : D.L.length < 1000000) {lf : Nat} (hlf : D.L.length + 1 < lf) (m : Nat) :
    ret (callS Tryz.prog S0 lf (m + 3) 61 [.ptr (some ⟨b, 0⟩)] H) fun v H' => v = .int .i64 0 ∧ Next H b y D H' { y with p := none, o := 0 } { D with S := flushS D.S D.L, L := [] } := by
  have l1 := load1 h
  have hpos : 0 < D.S.length := by cases hc : D.S with
    | nil => exact absurd hc hS
    | cons a l => simp
  refine ret_call rfl c61_eq ?_
  obtain ⟨v, H1, e, rfl, e1⟩ := asked_ok h (n := 0) hpos hd lf m
  subst e1
  change callS Tryz.prog S0 lf (m + 2) 107 [.ptr (some ⟨b, 0⟩), .int .i64 0] H1 = _ at e
  have hloop : ∀ t : T, t.getP (Tr.path 0) = some (.ptr (some ⟨b, 0⟩)) → t.getP (Tr.path 14) = some (.slice y.p D.L.length D.L.length y.o) → t.getP (Tr.path 15) = some (.int .i64 (D.L.length : Int)) → t.getP (Tr.path 16) = some (.int .i64 0) →
      wp (loopF (runC (callS Tryz.prog S0 lf (m + 2)) lf c61_l0) lf ⟨t, H1, []⟩) fun x s =>
        x = .ex 0 ∧ s.d = [] ∧ s.t.getP (Tr.path 0) = some (.ptr (some ⟨b, 0⟩)) ∧ DevAt s.H b y { D with S := flushS D.S D.L } ∧ Turns (Foot b y D) H1 s.H := by
    intro t q0 q14 q15 q16
    refine wp_loopF (fun k s => ∃ i, i + k = D.L.length ∧ s.d = [] ∧ s.t.getP (Tr.path 0) = some (.ptr (some ⟨b, 0⟩)) ∧ s.t.getP (Tr.path 14) = some (.slice y.p D.L.length D.L.length y.o) ∧ s.t.getP (Tr.path 15) = some (.int .i64 (D.L.length : Int)) ∧ s.t.getP (Tr.path 16) = some (.int .i64 (i : Int)) ∧ DevAt s.H b y { D with S := flushS D.S (D.L.take i) } ∧ Turns (Foot b y D) H1 s.H) ?_ lf D.L.length _ ⟨0, by simp, rfl, q0, q14, q15, q16, h, Turns.refl _ _⟩ (by omega)
    rintro k ⟨t, HH, d⟩ ⟨i, hi, rfl, q0, q14, q15, q16, hD, hT⟩
    dsimp only at q0 q14 q15 q16 hD hT
    cases k with
    | zero =>
      have hi : i = D.L.length := by omega
      subst hi
      rw [List.take_length] at hD
      have hg : ¬ (D.L.length < D.L.length) := Nat.lt_irrefl _
      simp only [c61_l0, q0, q14, q15, q16, hg, sy, tup, ↓reduceIte, Nat.reduceEqDiff, Nat.reduceAdd, Nat.reduceSub, Nat.reduceMul, Nat.reduceDiv, Nat.reduceMod, Nat.reduceLeDiff, Int.reduceBEq, reduceCtorEq]
      exact ⟨trivial, trivial, trivial, hD, hT⟩
    | succ k =>
      have hi' : i < D.L.length := by omega
      have hi1 : i + 1 ≤ D.L.length := hi'
      have hp := (h.loose (fun e => by rw [e] at hi'; simp at hi')).1
      have lw := loadLw hD hi'
      have hK := hD.turns ((Turns.add Z HH (.rows false 65 [[.int .i64 0, .blk 0]])).setnew (Nat.le_refl _) (.rows false 65 [[.int .i64 (D.L[i].1 : Int), .blk D.L[i].2]])) id id (fun _ => id)
      have hn : D.L[i].1 < (flushS D.S (D.L.take i)).length := by rw [flushS_length]; exact hok _ (List.getElem_mem _)
      have hn1 : D.L[i].1 + 1 ≤ (flushS D.S (D.L.take i)).length := hn
      have l0 := load0 hK
      have st := storeS hK hn D.L[i].2
      have hw : IntKind.i64.wrap ((i : Int) + 1) = ((i + 1 : Nat) : Int) := by rw [wrap_i64 (by omega)]; rfl
      rw [hp] at q14
      simp only [c61_l0, q0, q14, q15, q16, hi', hi1, hn1, lw, l0, st, hw, sy, tup, ↓reduceIte, Nat.reduceEqDiff, Nat.reduceAdd, Nat.reduceSub, Nat.reduceMul, Nat.reduceDiv, Nat.reduceMod, Nat.reduceLeDiff, Int.reduceBEq, reduceCtorEq]
      rw [endD_ok (by kernel_rfl) (by kernel_rfl)]
      simp only [q0, q14, q15, q16, hw, sy, tup, ↓reduceIte, Nat.reduceEqDiff, Nat.reduceAdd, Nat.reduceSub, Nat.reduceMul, Nat.reduceDiv, Nat.reduceMod, Nat.reduceLeDiff, Int.reduceBEq, reduceCtorEq]
      refine ⟨k, Nat.lt_succ_self k, i + 1, by omega, trivial, trivial, by rw [hp], trivial, rfl, ?_, ((hT.addm _).setnew hT.next _).setm (.inr (.inl rfl)) _⟩
      rw [flushS_take hi']
      exact hK.setS (by simp)
  simp only [c61, e, l1, sy, tup, ↓reduceIte, Nat.reduceEqDiff, Nat.reduceAdd, Nat.reduceSub, Nat.reduceMul, Nat.reduceDiv, Nat.reduceMod, Nat.reduceLeDiff, Int.reduceBEq, reduceCtorEq]
  refine wp_ctx (F := fun r => seqC _ _ _ (blockC _ r)) (hloop _ ?_ ?_ ?_ ?_) ?_
  · simp only [sy, tup, ↓reduceIte, Nat.reduceEqDiff, Nat.reduceAdd, Nat.reduceSub, Nat.reduceMul, Nat.reduceDiv, Nat.reduceMod, Nat.reduceLeDiff, Int.reduceBEq, reduceCtorEq]
  · simp only [sy, tup, ↓reduceIte, Nat.reduceEqDiff, Nat.reduceAdd, Nat.reduceSub, Nat.reduceMul, Nat.reduceDiv, Nat.reduceMod, Nat.reduceLeDiff, Int.reduceBEq, reduceCtorEq]
  · simp only [sy, tup, ↓reduceIte, Nat.reduceEqDiff, Nat.reduceAdd, Nat.reduceSub, Nat.reduceMul, Nat.reduceDiv, Nat.reduceMod, Nat.reduceLeDiff, Int.reduceBEq, reduceCtorEq]
  · simp only [sy, tup, ↓reduceIte, Nat.reduceEqDiff, Nat.reduceAdd, Nat.reduceSub, Nat.reduceMul, Nat.reduceDiv, Nat.reduceMod, Nat.reduceLeDiff, Int.reduceBEq, reduceCtorEq]
  rintro x ⟨t, HH, d⟩ ⟨rfl, rfl, q0, hD, hT⟩
  dsimp only at q0 hD hT
  have st := storeNil hD
  simp only [q0, st, sy, tup, ↓reduceIte, Nat.reduceEqDiff, Nat.reduceAdd, Nat.reduceSub, Nat.reduceMul, Nat.reduceDiv, Nat.reduceMod, Nat.reduceLeDiff, Int.reduceBEq, reduceCtorEq]
  exact ⟨trivial, .inr trivial, _, rfl, rfl, hD.clear D.dead, hT.setm (.inl rfl) _, rfl, fun e => absurd rfl e⟩

end Go.Proofs.YtpmdbbdidafehaaGreat.disk


/-
  A device in the machine's heap: what a cut of the power does.
-/
set_option linter.unusedVariables false
set_option linter.unusedSimpArgs false
set_option maxRecDepth 10000
namespace Go.Proofs.YtpmdbbdidafehaaGreat.disk
open Go.Am

theorem foldV_max (k k2 : IntKind) (a b : Int) : foldV max2 (.int k a) [.int k2 b] = some (.int k (max a b)) := by
  simp only [foldV, max2, ltI_eq]
  by_cases h : a < b
  · simp [h]; omega
  · simp [h]; omega
theorem foldV_min (k k2 : IntKind) (a b : Int) : foldV min2 (.int k a) [.int k2 b] = some (.int k (min a b)) := by
  simp only [foldV, min2, ltI_eq]
  by_cases h : b < a
  · simp [h]; omega
  · simp [h]; omega

def clampN (p : Int) : Nat := (min (max p 0) 64).toNat
theorem clamp_eq (p : Int) : min (max p 0) 64 = (clampN p : Int) := by
  unfold clampN
  rw [Int.toNat_of_nonneg (by omega)]
theorem clamp_le (p : Int) : clampN p ≤ 64 := by unfold clampN; omega

theorem sliceF_loose {x hi : S} {t : T} {p : Option Ptr} {len o k : Nat} (hx : x.get t = some (.slice p len len o)) (hhi : hi.get t = some (.int .i64 (k : Int))) (hk : k ≤ len) (hc : (len = 0 ∧ p = none ∧ o = 0) ∨ (len ≠ 0 ∧ o = 65)) : sliceF 65 x none (some hi) none t = some (.slice p k len o) := by
  have hb : bounds len len none (some (.int .i64 (k : Int))) none = some (0, k, len) := by
    simp only [bounds, boundD, bound, asNat_int, nble]
    simp [hk]
  unfold sliceF
  simp only [hx, hhi, oget, Option.map_some]
  rcases hc with ⟨h1, h2, h3⟩ | ⟨h1, h2⟩
  · subst h1; subst h2; subst h3
    simp only [nbeq, hb]
    simp
  · subst h2
    have : 1 ≤ len := by omega
    simp only [nbeq, nble, hb]
    simp [this, mul_eq, add_eq]

theorem sliceAF_hi {x hi : S} {t : T} {c : Bk} {o k : Nat} (hx : x.get t = some (.ptr (some ⟨c, o⟩))) (hhi : hi.get t = some (.int .i64 (k : Int))) (hk : k ≤ 64) : sliceAF 64 1 x none (some hi) none t = some (.slice (some ⟨c, o⟩) k 64 0) := by
  have hb : bounds 64 64 none (some (.int .i64 (k : Int))) none = some (0, k, 64) := by
    simp only [bounds, boundD, bound, asNat_int, nble]
    simp [hk]
  unfold sliceAF
  simp only [hx, hhi, oget, Option.map_some, hb, nbeq]
  simp [mul_eq, add_eq]

theorem cpyF_eq {d s : S} {t : T} {H : Heap} {dv sv : V} (hd : d.get t = some dv) (hs : s.get t = some sv) (sz : Nat) : cpyF sz d s t H = copyV sz H dv sv := by
  unfold cpyF; simp only [hd, hs]

/-- the bytes of a block from j on, n of them -/
def bl (B : Nat) : (n j : Nat) → List Nat
  | 0, _ => []
  | n + 1, j => byte B j :: bl B n (j + 1)
/-- bytes laid over a block from j on -/
def puts (B : Nat) (j : Nat) : List Nat → Nat
  | [] => B
  | x :: xs => puts (setByte B j x) (j + 1) xs
def tornN (old now n : Nat) : Nat := puts old 0 (bl now n 0)

theorem cut_byte (B j : Nat) (hj : j < 64) : cut [.blk B] j 1 = some [.int .u8 (.ofNat (byte B j))] := by
  have e : min 1 (64 - j) = 1 := by omega
  have h1 : ¬ (64 ≤ j) := by omega
  simp only [cut, nbeq, nble, V.asBlk, sub_eq, e]
  simp [h1]
  rfl
theorem put_byte (B j x : Nat) (hj : j < 64) (hx : x < 256) : put [.blk B] j [.int .u8 (.ofNat x)] = some [.blk (setByte B j x)] := by
  have h1 : ¬ (64 ≤ j) := by omega
  have h2 : x ≤ 255 := by omega
  have hp : putBytes [.int .u8 (.ofNat x)] j B = some (setByte B j x, []) := by
    simp only [putBytes, nble]
    simp [h1, h2, putBytes]
  have ha : V.asBlk (.int .u8 (.ofNat x)) = none := rfl
  have hb : V.asBlk (.blk B) = some B := rfl
  unfold put
  simp only [hb, ha, hp, nble]
  simp [h1, put_nil]

theorem elems_bytes {H : Heap} {c : Bk} {k : IntKind} {nn : Int} {B : Nat} (hc : H.get c = some (.rows false 65 [[.int k nn, .blk B]])) : ∀ (n j : Nat), j + n ≤ 64 → elems H c 1 n (j + 1) = some ((bl B n j).map fun x => [.int .u8 (.ofNat x)])
  | 0, j, _ => rfl
  | n + 1, j, h => by
    have hl : loadAt H ⟨c, j + 1⟩ 1 = some [.int .u8 (.ofNat (byte B j))] := by
      rw [loadAt_eq hc (r := [.int k nn, .blk B]) (by rw [Nat.div_eq_of_lt (by omega)]; rfl), Nat.mod_eq_of_lt (by omega), cut_miss (n := 0) _ _ _ (by rfl)]
      exact cut_byte B j (by omega)
    simp only [elems, hl, add_eq]
    rw [elems_bytes hc n (j + 1) (by omega)]
    rfl

theorem store_byte {H : Heap} {b : Bk} {y : Lay} {D : Dev} (h : DevAt H b y D) {w j x : Nat} (hw : w < D.S.length) (hj : j < 64) (hx : x < 256) : storeAt H ⟨y.s, w * 64 + j⟩ [.int .u8 (.ofNat x)] = some (H.set y.s (.rows false 64 (sureRows (D.S.set w (setByte D.S[w] j x))))) := by
  have e1 : (w * 64 + j) / 64 = w := by omega
  have e2 : (w * 64 + j) % 64 = j := by omega
  rw [storeAt_eq h.sure (r := [.blk D.S[w]]) (r' := [.blk (setByte D.S[w] j x)]) (nth_of (by rw [e1]; simp [sureRows, hw])) (by rw [e2]; exact put_byte _ _ _ hj hx), e1]
  simp [sureRows, List.map_set]

theorem store_bytes : ∀ (xs : List Nat) {H : Heap} {b : Bk} {y : Lay} {D : Dev} {w j : Nat} (h : DevAt H b y D) (hw : w < D.S.length), j + xs.length ≤ 64 → (∀ x ∈ xs, x < 256) →
    ∃ H', storeElems y.s 1 (xs.map fun x => [.int .u8 (.ofNat x)]) (w * 64 + j) H = some H' ∧ DevAt H' b y { D with S := D.S.set w (puts D.S[w] j xs) } ∧ Turns (fun c => c = y.s) H H'
  | [], H, b, y, D, w, j, h, hw, _, _ => ⟨H, rfl, by simpa [puts] using h, Turns.refl _ _⟩
  | x :: xs, H, b, y, D, w, j, h, hw, hl, hx => by
    have hl' : j + 1 + xs.length ≤ 64 := by simp at hl; omega
    have st := store_byte h hw (j := j) (by omega) (hx x (List.mem_cons_self ..))
    have hd := h.setS (S' := D.S.set w (setByte D.S[w] j x)) (by simp)
    obtain ⟨H', e, hD, hT⟩ := store_bytes xs (j := j + 1) hd (w := w) (by simpa using hw) hl' (fun z hz => hx z (List.mem_cons_of_mem _ hz))
    refine ⟨H', ?_, ?_, (Turns.set (X := fun c => c = y.s) rfl _ _).trans hT⟩
    · simp only [List.map_cons, storeElems, st, add_eq]
      rw [show w * 64 + j + 1 = w * 64 + (j + 1) by omega]
      exact e
    · simpa [puts] using hD

theorem bl_length (B : Nat) : ∀ n j, (bl B n j).length = n
  | 0, _ => rfl
  | n + 1, j => by simp [bl, bl_length B n (j + 1)]
theorem bl_lt (B : Nat) : ∀ n j, ∀ x ∈ bl B n j, x < 256
  | 0, _, x, h => by simp [bl] at h
  | n + 1, j, x, h => by
    simp only [bl, List.mem_cons] at h
    rcases h with rfl | h
    · exact byte_lt _ _
    · exact bl_lt B n (j + 1) x h

theorem copy_block {H : Heap} {b : Bk} {y : Lay} {D : Dev} (h : DevAt H b y D) {c : Bk} {w B n : Nat} {k : IntKind} {nn : Int} (hc : H.get c = some (.rows false 65 [[.int k nn, .blk B]])) (hw : w < D.S.length) (hn : n ≤ 64) :
    ∃ H', copyV 1 H (.slice (some ⟨y.s, w * 64⟩) n 64 0) (.slice (some ⟨c, 1⟩) n 64 0) = some (.int .i64 (n : Int), H') ∧ DevAt H' b y { D with S := D.S.set w (tornN D.S[w] B n) } ∧ Turns (fun x => x = y.s) H H' := by
  by_cases h0 : n = 0
  · subst h0
    refine ⟨H, by simp [copyV], by simpa [tornN, bl, puts] using h, Turns.refl _ _⟩
  · have he := elems_bytes hc n 0 (by omega)
    obtain ⟨H', e, hD, hT⟩ := store_bytes (bl B n 0) (j := 0) h hw (by rw [bl_length]; omega) (bl_lt B n 0)
    refine ⟨H', ?_, hD, hT⟩
    simp only [copyV, Nat.min_self, nbeq, firstE]
    simp only [h0, decide_false]
    rw [show (1 : Nat) = 0 + 1 from rfl, he]
    rw [Nat.add_zero] at e
    simp only [e, Option.map_some]
    rfl

theorem getD_lt {l : List Nat} {n : Nat} (h : n < l.length) : l.getD n 0 = l[n] := by simp [List.getD, h]

structure PicksAt (H : Heap) (pp : Option Ptr) (P : List Int) (X : Bk → Prop) : Prop where
  has : P ≠ [] → ∃ x ox ro rows, pp = some ⟨x, ox⟩ ∧ H.Old x ∧ ¬ X x ∧ H.get x = some (.rows ro 1 rows) ∧ ∀ i, (hi : i < P.length) → rows[ox + i]? = some [.int .i64 P[i]]

theorem PicksAt.load {H : Heap} {pp : Option Ptr} {P : List Int} {X : Bk → Prop} (h : PicksAt H pp P X) {i : Nat} (hi : i < P.length) : ∃ x ox, pp = some ⟨x, ox⟩ ∧ loadAt H ⟨x, ox + i⟩ 1 = some [.int .i64 P[i]] := by
  obtain ⟨x, ox, ro, rows, hp, _, _, hg, hr⟩ := h.has (fun e => by rw [e] at hi; simp at hi)
  refine ⟨x, ox, hp, ?_⟩
  rw [loadAt_eq hg (r := [.int .i64 P[i]]) (nth_of (by rw [Nat.div_one]; exact hr i hi)), Nat.mod_one]
  exact cut_hit _ _ rfl
theorem PicksAt.turns {H H' : Heap} {pp : Option Ptr} {P : List Int} {X : Bk → Prop} (h : PicksAt H pp P X) (k : Turns X H H') : PicksAt H' pp P X := ⟨fun e => by
  obtain ⟨x, ox, ro, rows, hp, ho, hx, hg, hr⟩ := h.has e
  exact ⟨x, ox, ro, rows, hp, ho.mono k.next, hx, (k.same x ho hx).trans hg, hr⟩⟩

theorem PicksAt.at' {H H' : Heap} {pp : Option Ptr} {P : List Int} {X : Bk → Prop} (h : PicksAt H pp P (fun _ => False)) (k : Turns (fun _ => False) H H') (hX : ∀ c, X c → ¬ H.Old c) : PicksAt H' pp P X := ⟨fun e => by
  obtain ⟨x, ox, ro, rows, hp, ho, hx, hg, hr⟩ := h.has e
  exact ⟨x, ox, ro, rows, hp, ho.mono k.next, fun hx => hX x hx ho, (k.same x ho id).trans hg, hr⟩⟩

def crashS (S : List Nat) (l : List ((Nat × Nat) × Int)) : List Nat := l.foldl (fun S w => S.set w.1.1 (tornN (S.getD w.1.1 0) w.1.2 (clampN w.2))) S
theorem crashS_length : ∀ (l : List ((Nat × Nat) × Int)) (S : List Nat), (crashS S l).length = S.length
  | [], S => rfl
  | w :: l, S => (crashS_length l _).trans (by simp)
theorem crashS_take {l : List ((Nat × Nat) × Int)} {i : Nat} (hi : i < l.length) (S : List Nat) : crashS S (l.take (i + 1)) = (crashS S (l.take i)).set l[i].1.1 (tornN ((crashS S (l.take i)).getD l[i].1.1 0) l[i].1.2 (clampN l[i].2)) := by
  unfold crashS
  rw [List.take_succ_eq_append_getElem hi, List.foldl_append]; rfl

end Go.Proofs.YtpmdbbdidafehaaGreat.disk


/-
  A device in the machine's heap: how it is made, and filled.
-/
set_option linter.unusedVariables false
set_option linter.unusedSimpArgs false
set_option maxRecDepth 10000
namespace Go.Proofs.YtpmdbbdidafehaaGreat.disk
open Go.Am



theorem Turns.after {X : Bk → Prop} {H0 H H' : Heap} {Y : Bk → Prop} (h : Turns X H0 H) (k : Turns Y H H') (hy : ∀ c, H0.Old c → Y c → X c) : Turns X H0 H' :=
  ⟨Nat.le_trans h.next k.next, fun c hc hx => (k.same c (hc.mono h.next) (fun e => hx (hy c hc e))).trans (h.same c hc hx), fun q => k.q (h.q q)⟩

structure Fresh (H0 : Heap) (b : Bk) (y : Lay) (D : Dev) : Prop where
  b : ¬ H0.Old b
  s : ¬ H0.Old y.s
  l : D.L ≠ [] → ¬ H0.Old y.l

theorem Fresh.foot {H0 : Heap} {b : Bk} {y : Lay} {D : Dev} (h : Fresh H0 b y D) : ∀ c, Foot b y D c → ¬ H0.Old c := by
  rintro c (rfl | rfl | ⟨hl, rfl⟩)
  · exact h.b
  · exact h.s
  · exact h.l hl
theorem Fresh.next {H0 H H' : Heap} {b : Bk} {y y' : Lay} {D D' : Dev} (h : Fresh H0 b y D) (hn : H0.next ≤ H.next) (k : Next H b y D H' y' D') : Fresh H0 b y' D' :=
  ⟨h.b, by rw [k.s]; exact h.s, fun e => by
    rcases k.l e with ⟨h1, h2⟩ | h1
    · rw [h2]; exact h.l h1
    · exact fun o => h1 (o.mono hn)⟩
theorem Fresh.turns {H0 H H' : Heap} {b : Bk} {y y' : Lay} {D D' : Dev} (h : Fresh H0 b y D) (hT : Turns Z H0 H) (k : Next H b y D H' y' D') : Turns Z H0 H' :=
  Turns.after hT k.turns (fun c hc hx => (h.foot c hx hc).elim)

theorem new_ok (H : Heap) {n : Nat} (h1 : 1 ≤ n) (h2 : n ≤ 512) (lf m : Nat) : ret (callS Tryz.prog S0 lf (m + 1) 73 [.int .i64 (n : Int)] H) fun v H' => v = .tuple [.ptr (some ⟨.run (H.next + 1), 0⟩), .int .i64 0] ∧
    DevAt H' (.run (H.next + 1)) ⟨.run H.next, 0, .run H.next, none, 0⟩ ⟨List.replicate n 0, [], false⟩ ∧ Turns Z H H' := by
  have g1 : ¬ ((n : Int) < 1) := by omega
  have g2 : ¬ (512 < (n : Int)) := by omega
  have g3 : n ≤ n := Nat.le_refl _
  have g4 : n * 64 ≤ 1099511627776 := by omega
  have g4' : 64 * n ≤ 1099511627776 := by omega
  have g5 : n ≤ 1099511627776 := by omega
  refine ret_call rfl c73_eq ?_
  simp only [c73, g1, g2, g3, g4, g4', g5, mksliceF, sy, tup, ↓reduceIte, Nat.reduceEqDiff, Nat.reduceAdd, Nat.reduceSub, Nat.reduceMul, Nat.reduceDiv, Nat.reduceMod, Nat.reduceLeDiff, Int.reduceBEq, reduceCtorEq]
  refine ⟨trivial, .inr trivial, _, rfl, rfl, ?_, ((Turns.refl Z H).addm _).addm _⟩
  refine ⟨?_, ?_, fun _ => ⟨rfl, rfl⟩, fun e => absurd rfl e, ⟨?_, ?_, fun e => absurd rfl e⟩, by simp, fun e => absurd rfl e⟩
  · rw [Heap.get_add, if_pos (by simp)]; simp
  · rw [Heap.get_add, if_neg (by simp), Heap.get_add, if_pos rfl]
    simp [sureRows]
  · show _ < _
    first | (simp; done) | (simp; omega)
  · show _ < _
    first | (simp; done) | (simp; omega)

structure WritesAt (H : Heap) (pp : Option Ptr) (W : List (Int × Nat)) : Prop where
  at' : W ≠ [] → ∃ x ro rows, pp = some ⟨x, 0⟩ ∧ H.Old x ∧ H.get x = some (.rows ro 65 rows) ∧ ∀ i, (hi : i < W.length) → rows[i]? = some [.int .i64 W[i].1, .blk W[i].2]
theorem WritesAt.turns {H H' : Heap} {pp : Option Ptr} {W : List (Int × Nat)} (h : WritesAt H pp W) (k : Turns Z H H') : WritesAt H' pp W := ⟨fun e => by
  obtain ⟨x, ro, rows, hp, ho, hg, hr⟩ := h.at' e
  exact ⟨x, ro, rows, hp, ho.mono k.next, (k.same x ho id).trans hg, hr⟩⟩
theorem WritesAt.load {H : Heap} {pp : Option Ptr} {W : List (Int × Nat)} (h : WritesAt H pp W) {i : Nat} (hi : i < W.length) : ∃ x, pp = some ⟨x, 0⟩ ∧ loadAt H ⟨x, i * 65⟩ 1 = some [.int .i64 W[i].1] ∧ loadAt H ⟨x, i * 65 + 1⟩ 64 = some [.blk W[i].2] := by
  obtain ⟨x, ro, rows, hp, _, hg, hr⟩ := h.at' (fun e => by rw [e] at hi; simp at hi)
  have e1 : (i * 65 + 1) / 65 = i := by omega
  have e2 : (i * 65 + 1) % 65 = 0 + 1 := by omega
  refine ⟨x, hp, ?_, ?_⟩
  · rw [loadAt_eq hg (r := [.int .i64 W[i].1, .blk W[i].2]) (nth_of (by rw [Nat.mul_div_cancel _ (by decide)]; exact hr i hi)), Nat.mul_mod_left]
    exact cut_hit _ _ rfl
  · rw [loadAt_eq hg (r := [.int .i64 W[i].1, .blk W[i].2]) (nth_of (by rw [e1]; exact hr i hi)), e2, cut_miss (n := 63) _ _ _ (by rfl)]
    exact cut_blk _ _

/-- int(uint(x) % uint(n)) -/
def modN (x : Int) (n : Nat) : Nat := (IntKind.u64.wrap x).toNat % n
theorem modN_lt (x : Int) {n : Nat} (hn : 0 < n) : modN x n < n := Nat.mod_lt _ hn
theorem rem_nat (k : IntKind) (a b : Nat) (hb : b ≠ 0) : arith .rem (.int k (a : Int)) (.int k (b : Int)) = some (.int k ((a % b : Nat) : Int)) := by
  rw [arith_rem k _ _ (by omega)]
  rfl
theorem mod_steps (x : Int) {n : Nat} (hn : 0 < n) (hn2 : n ≤ 1000) : arith .rem (.int .u64 (IntKind.u64.wrap x)) (.int .u64 (n : Int)) = some (.int .u64 ((modN x n : Nat) : Int)) := by
  have h := wrap_u64_range x
  have e : IntKind.u64.wrap x = (((IntKind.u64.wrap x).toNat : Nat) : Int) := (Int.toNat_of_nonneg h.1).symm
  rw [e, rem_nat _ _ _ (by omega)]
  rfl

def filledD (n : Nat) (W : List (Int × Nat)) (i : Nat) : Dev := ⟨List.replicate n 0, (W.take i).map fun w => (modN w.1 n, w.2), false⟩

structure Kept (H : Heap) (c : Bk) (o : Am.Obj) (b : Bk) (y : Lay) (D : Dev) : Prop where
  old : H.Old c
  get : H.get c = some o
  nb : c ≠ b
  ns : c ≠ y.s
  nl : D.L ≠ [] → c ≠ y.l
theorem Kept.next {H H' : Heap} {c b : Bk} {o : Am.Obj} {y y' : Lay} {D D' : Dev} (h : Kept H c o b y D) (k : Next H b y D H' y' D') : Kept H' c o b y' D' := by
  refine ⟨h.old.mono k.turns.next, (k.turns.same c h.old ?_).trans h.get, h.nb, by rw [k.s]; exact h.ns, fun e => ?_⟩
  · rintro (rfl | rfl | ⟨hl, rfl⟩)
    · exact h.nb rfl
    · exact h.ns rfl
    · exact h.nl hl rfl
  · rcases k.l e with ⟨h1, h2⟩ | h1
    · rw [h2]; exact h.nl h1
    · rintro rfl; exact h1 h.old
theorem Kept.turns {H H' : Heap} {c b : Bk} {o : Am.Obj} {y : Lay} {D : Dev} (h : Kept H c o b y D) (k : Turns Z H H') : Kept H' c o b y D :=
  ⟨h.old.mono k.next, (k.same c h.old id).trans h.get, h.nb, h.ns, h.nl⟩
theorem load_of {H : Heap} {c : Bk} {x : Nat} (h : H.get c = some (.rows false 64 [[.blk x]])) : loadAt H ⟨c, 0⟩ 64 = some [.blk x] := by
  rw [loadAt_eq h (r := [.blk x]) rfl]; exact cut_blk _ _

theorem crashS_other : ∀ (l : List ((Nat × Nat) × Int)) (S : List Nat) (k : Nat), (∀ w ∈ l, w.1.1 ≠ k) → (crashS S l).getD k 0 = S.getD k 0
  | [], S, k, _ => rfl
  | w :: l, S, k, h => by
    refine (crashS_other l _ k (fun v hv => h v (List.mem_cons_of_mem _ hv))).trans ?_
    simp [List.getD, List.getElem?_set_ne (h w (List.mem_cons_self ..))]


end Go.Proofs.YtpmdbbdidafehaaGreat.disk


/-
  A device in the machine's heap: spoiling a byte; and the document's torn block.
-/
set_option linter.unusedVariables false
set_option linter.unusedSimpArgs false
set_option maxRecDepth 10000
namespace Go.Proofs.YtpmdbbdidafehaaGreat.disk
open Go.Am



noncomputable def xo8 (a b : Nat) : Nat := Nat.xor a b
theorem xo8_lt {a b : Nat} (h : a < 256) (k : b < 256) : xo8 a b < 256 := Nat.xor_lt_two_pow (n := 8) h k
theorem u8_wrap {n : Nat} (h : n < 256) : IntKind.u8.wrap (n : Int) = n := by
  show (if false && decide ((n : Int) % (2 ^ 8 : Int) ≥ (2 ^ (8 - 1) : Int)) then (n : Int) % (2 ^ 8 : Int) - (2 ^ 8 : Int) else (n : Int) % (2 ^ 8 : Int)) = n
  rw [show (2 ^ 8 : Int) = 256 from rfl]
  simp only [Bool.false_and, Bool.false_eq_true, if_false]
  omega
theorem fits_u8 {n : Nat} (h : n < 256) : fitsK .u8 n = true := by
  show Nat.ble n 255 = true
  rw [ble_iff]; omega
theorem xor_u8 {a b : Nat} (h : a < 256) (k : b < 256) : arith .xor (.int .u8 (a : Int)) (.int .u8 (b : Int)) = some (.int .u8 ((xo8 a b : Nat) : Int)) := by
  have e : bitI Nat.xor (fun _ a b => a ^^^ b) .u8 (a : Int) (b : Int) = ((xo8 a b : Nat) : Int) := by
    show (match fitsK .u8 a && fitsK .u8 b with | true => Int.ofNat (Nat.xor a b) | false => _) = _
    rw [fits_u8 h, fits_u8 k]; rfl
  show (match decide (IntKind.u8 = IntKind.u8) with | false => none | true => mkI .u8 (bitI Nat.xor (fun _ a b => a ^^^ b) .u8 (a : Int) (b : Int))) = _
  rw [e, mkI_eq, u8_wrap (xo8_lt h k)]; rfl

theorem load_byte {H : Heap} {b : Bk} {y : Lay} {D : Dev} (h : DevAt H b y D) {w j : Nat} (hw : w < D.S.length) (hj : j < 64) : loadAt H ⟨y.s, w * 64 + j⟩ 1 = some [.int .u8 ((byte D.S[w] j : Nat) : Int)] := by
  have e1 : (w * 64 + j) / 64 = w := by omega
  have e2 : (w * 64 + j) % 64 = j := by omega
  rw [loadAt_eq h.sure (r := [.blk D.S[w]]) (nth_of (by rw [e1]; simp [sureRows, hw])), e2]
  exact cut_byte _ _ hj
theorem cell_load_byte {H : Heap} {c : Bk} {x j : Nat} (h : H.get c = some (.rows false 64 [[.blk x]])) (hj : j < 64) : loadAt H ⟨c, j⟩ 1 = some [.int .u8 ((byte x j : Nat) : Int)] := by
  rw [loadAt_eq h (r := [.blk x]) (by rw [Nat.div_eq_of_lt hj]; rfl), Nat.mod_eq_of_lt hj]
  exact cut_byte _ _ hj
theorem cell_store_byte {H : Heap} {c : Bk} {x j v : Nat} (h : H.get c = some (.rows false 64 [[.blk x]])) (hj : j < 64) (hv : v < 256) : storeAt H ⟨c, j⟩ [.int .u8 (v : Int)] = some (H.set c (.rows false 64 [[.blk (setByte x j v)]])) := by
  rw [storeAt_eq h (r := [.blk x]) (r' := [.blk (setByte x j v)]) (by rw [Nat.div_eq_of_lt hj]; rfl) (by rw [Nat.mod_eq_of_lt hj]; exact put_byte _ _ _ hj hv), Nat.div_eq_of_lt hj]
  rfl
theorem cell_store {H : Heap} {c : Bk} {x v : Nat} (h : H.get c = some (.rows false 64 [[.blk x]])) : storeAt H ⟨c, 0⟩ [.blk v] = some (H.set c (.rows false 64 [[.blk v]])) := by
  rw [storeAt_eq h (r := [.blk x]) (r' := [.blk v]) rfl (put_blk _ _ _)]; rfl

noncomputable def rotN (x j by' : Nat) : Nat := setByte x j (xo8 (byte x j) by')

theorem bl_succ (B : Nat) : ∀ n j, bl B (n + 1) j = bl B n j ++ [byte B (j + n)]
  | 0, j => rfl
  | n + 1, j => by
    show byte B j :: bl B (n + 1) (j + 1) = byte B j :: (bl B n (j + 1) ++ [byte B (j + (n + 1))])
    rw [bl_succ B n (j + 1), show j + 1 + n = j + (n + 1) by omega]
theorem puts_append : ∀ (xs : List Nat) (B j x : Nat), puts B j (xs ++ [x]) = setByte (puts B j xs) (j + xs.length) x
  | [], B, j, x => rfl
  | z :: xs, B, j, x => by
    show puts (setByte B j z) (j + 1) (xs ++ [x]) = setByte (puts (setByte B j z) (j + 1) xs) _ x
    rw [puts_append xs _ (j + 1) x, List.length_cons, show j + 1 + xs.length = j + (xs.length + 1) by omega]
theorem tornN_succ (old now i : Nat) : tornN old now (i + 1) = setByte (tornN old now i) i (byte now i) := by
  unfold tornN
  rw [bl_succ, puts_append, bl_length, Nat.zero_add]

end Go.Proofs.YtpmdbbdidafehaaGreat.disk


/-
  Devices in the machine's heap: a copy; several beside each other.
-/
set_option linter.unusedVariables false
set_option linter.unusedSimpArgs false
set_option maxRecDepth 10000
namespace Go.Proofs.YtpmdbbdidafehaaGreat.disk
open Go.Am



def Sep (b : Bk) (y : Lay) (D : Dev) (b' : Bk) (y' : Lay) (D' : Dev) : Prop := ∀ c, Foot b y D c → ¬ Foot b' y' D' c
theorem DevAt.foot_old {H : Heap} {b : Bk} {y : Lay} {D : Dev} (h : DevAt H b y D) : ∀ c, Foot b y D c → H.Old c := by
  rintro c (rfl | rfl | ⟨hl, rfl⟩)
  · exact h.old.1
  · exact h.old.2.1
  · exact h.old.2.2 hl
theorem Sep.symm {b b' : Bk} {y y' : Lay} {D D' : Dev} (h : Sep b y D b' y' D') : Sep b' y' D' b y D := fun c h1 h2 => h c h2 h1
theorem Sep.dev {H H' : Heap} {b b' : Bk} {y y' : Lay} {D D' : Dev} (hs : Sep b y D b' y' D') (h' : DevAt H b' y' D') (k : Turns (Foot b y D) H H') : DevAt H' b' y' D' :=
  h'.turns k (fun e => hs _ e (.inl rfl)) (fun e => hs _ e (.inr (.inl rfl))) (fun hl e => hs _ e (.inr (.inr ⟨hl, rfl⟩)))
theorem Sep.next {H H' : Heap} {b b' : Bk} {y y' y1 : Lay} {D D' D1 : Dev} (hs : Sep b y D b' y' D') (h' : DevAt H b' y' D') (k : Next H b y D H' y1 D1) : Sep b y1 D1 b' y' D' := by
  rintro c (rfl | rfl | ⟨hl, rfl⟩) hc
  · exact hs _ (.inl rfl) hc
  · rw [k.s] at hc; exact hs _ (.inr (.inl rfl)) hc
  · rcases k.l hl with ⟨h1, h2⟩ | h1
    · rw [h2] at hc; exact hs _ (.inr (.inr ⟨h1, rfl⟩)) hc
    · exact h1 (h'.foot_old _ hc)
theorem sep_fresh {H : Heap} {b b' : Bk} {y y' : Lay} {D D' : Dev} (h : DevAt H b y D) (hF : Fresh H b' y' D') : Sep b y D b' y' D' := fun c hc hc' => hF.foot c hc' (h.foot_old c hc)

theorem elems_rows {H : Heap} {b : Bk} {ro : Bool} {sz : Nat} (hsz : 0 < sz) {rows : List (List V)} (h : H.get b = some (.rows ro sz rows)) (hr : ∀ r ∈ rows, cut r 0 sz = some r) : ∀ (n j : Nat), j + n ≤ rows.length → elems H b sz n (j * sz) = some ((rows.drop j).take n)
  | 0, j, _ => by simp [elems]
  | n + 1, j, hl => by
    have hj : j < rows.length := by omega
    have e1 : loadAt H ⟨b, j * sz⟩ sz = some rows[j] := by
      rw [loadAt_eq h (r := rows[j]) (nth_of (by rw [Nat.mul_div_cancel _ hsz]; simp [hj])), Nat.mul_mod_left]
      exact hr _ (List.getElem_mem hj)
    simp only [elems, e1, add_eq]
    rw [show j * sz + sz = (j + 1) * sz by rw [Nat.add_mul, Nat.one_mul], elems_rows hsz h hr n (j + 1) (by omega)]
    rw [List.drop_eq_getElem_cons hj]
    rfl

end Go.Proofs.YtpmdbbdidafehaaGreat.disk


/-
  Devices: what torn blocks, cuts and readings come to, as plain numbers and lists.
-/
set_option linter.unusedVariables false
set_option linter.unusedSimpArgs false
set_option maxRecDepth 10000
namespace Go.Proofs.YtpmdbbdidafehaaGreat.disk
open Go.Am

noncomputable def cellH (K : Heap) (x : Nat) : Heap := (K.add (.rows false 64 [[.blk 0]])).set (.run K.next) (.rows false 64 [[.blk x]])
theorem cell_fold (K : Heap) (x : Nat) : (K.add (.rows false 64 [[.blk 0]])).set (.run K.next) (.rows false 64 [[.blk x]]) = cellH K x := rfl
theorem cell_turns (K : Heap) (x : Nat) : Turns Z K (cellH K x) := (Turns.add Z K _).setnew (Nat.le_refl _) _
theorem cell_get (K : Heap) (x : Nat) : (cellH K x).get (.run K.next) = some (.rows false 64 [[.blk x]]) := by unfold cellH; rw [Heap.get_set, if_pos rfl]
theorem cell_old (K : Heap) (x : Nat) : (cellH K x).Old (.run K.next) := by show _ < _; simp [cellH]

theorem byte_tornN (old now : Nat) : ∀ (n j : Nat), byte (tornN old now n) j = if j < n then byte now j else byte old j
  | 0, j => rfl
  | n + 1, j => by
    rw [tornN_succ, byte_setByte _ _ _ _ (byte_lt _ _), byte_tornN old now n j]
    by_cases h : j = n
    · subst h; simp
    · rw [if_neg h]
      by_cases h2 : j < n
      · rw [if_pos h2, if_pos (by omega)]
      · rw [if_neg h2, if_neg (by omega)]
theorem tornN_lt {old now : Nat} (h : old < 256 ^ 64) : ∀ n, n ≤ 64 → tornN old now n < 256 ^ 64
  | 0, _ => h
  | n + 1, hn => by
    rw [tornN_succ]
    exact setByte_lt _ _ _ (byte_lt _ _) (by omega) (tornN_lt h n (by omega))
theorem eq_of_bytes {a b : Nat} (ha : a < 256 ^ 64) (hb : b < 256 ^ 64) (h : ∀ j, j < 64 → byte a j = byte b j) : a = b := by
  have key : ∀ n, n ≤ 64 → a % 256 ^ n = b % 256 ^ n := by
    intro n
    induction n with
    | zero => intro _; simp [Nat.mod_one]
    | succ n ih =>
      intro hn
      have e := h n (by omega)
      rw [byte_eq, byte_eq] at e
      rw [Nat.mod_pow_succ, Nat.mod_pow_succ, ih (by omega), e]
  have := key 64 (Nat.le_refl _)
  rwa [Nat.mod_eq_of_lt ha, Nat.mod_eq_of_lt hb] at this
theorem tornN_all {old now : Nat} (h : old < 256 ^ 64) (k : now < 256 ^ 64) : tornN old now 64 = now :=
  eq_of_bytes (tornN_lt h 64 (Nat.le_refl _)) k (fun j hj => by rw [byte_tornN, if_pos hj])

def Small (S : List Nat) : Prop := ∀ x ∈ S, x < 256 ^ 64
def SmallL (L : List (Nat × Nat)) : Prop := ∀ w ∈ L, w.2 < 256 ^ 64
theorem Small.getD {S : List Nat} (h : Small S) (n : Nat) : S.getD n 0 < 256 ^ 64 := by
  by_cases hn : n < S.length
  · rw [getD_lt hn]; exact h _ (List.getElem_mem hn)
  · simp [List.getD, hn]
theorem Small.set {S : List Nat} (h : Small S) (n : Nat) {x : Nat} (hx : x < 256 ^ 64) : Small (S.set n x) := fun z hz => by
  rcases List.mem_or_eq_of_mem_set hz with hz | rfl
  · exact h z hz
  · exact hx
theorem Small.flush : ∀ {L : List (Nat × Nat)} {S : List Nat}, Small S → SmallL L → Small (flushS S L)
  | [], S, h, _ => h
  | w :: L, S, h, hl => Small.flush (L := L) (h.set w.1 (hl w (List.mem_cons_self ..))) (fun v hv => hl v (List.mem_cons_of_mem _ hv))

theorem crash_all : ∀ {L : List (Nat × Nat)} {S : List Nat} {P : List Int}, Small S → SmallL L → L.length ≤ P.length → (∀ p ∈ P, clampN p = 64) → crashS S (L.zip P) = flushS S L
  | [], S, P, _, _, _, _ => rfl
  | w :: L, S, [], _, _, h, _ => by simp at h
  | w :: L, S, p :: P, hS, hL, h, hp => by
    have hw := hL w (List.mem_cons_self ..)
    show crashS (S.set w.1 (tornN (S.getD w.1 0) w.2 (clampN p))) (L.zip P) = flushS (S.set w.1 w.2) L
    rw [hp p (List.mem_cons_self ..), tornN_all (hS.getD _) hw]
    exact crash_all (hS.set _ hw) (fun v hv => hL v (List.mem_cons_of_mem _ hv)) (by simpa using h) (fun q hq => hp q (List.mem_cons_of_mem _ hq))

theorem look_cons (w : Nat × Nat) (l : List (Nat × Nat)) (n : Nat) : look (w :: l) n = match look l n with
    | some x => some x
    | none => if w.1 = n then some w.2 else none := rfl
theorem look_flush : ∀ {L : List (Nat × Nat)} {S : List Nat} {n : Nat}, (∀ w ∈ L, w.1 < S.length) → (flushS S L).getD n 0 = match look L n with
    | some x => x
    | none => S.getD n 0
  | [], S, n, _ => rfl
  | w :: L, S, n, h => by
    show (flushS (S.set w.1 w.2) L).getD n 0 = _
    rw [look_flush (S := S.set w.1 w.2) (by intro v hv; simpa using h v (List.mem_cons_of_mem _ hv))]
    rw [look_cons]
    have hw := h w (List.mem_cons_self ..)
    cases look L n with
    | some x => rfl
    | none =>
      dsimp only
      by_cases e : w.1 = n
      · subst e
        simp [List.getD, hw]
      · rw [if_neg e]
        simp [List.getD, List.getElem?_set_ne e]
theorem read_flush {D : Dev} (h : ∀ w ∈ D.L, w.1 < D.S.length) (n : Nat) : readN D n = (flushS D.S D.L).getD n 0 := (look_flush h).symm

theorem clamp64 (j : Nat) : clampN (64 + (j : Int)) = 64 := by unfold clampN; omega

/-- numbers that are appended one by one -/
def rowsI (P : List Int) : List (List V) := P.map fun p => [.int .i64 p]
noncomputable def killP (H : Heap) : Option Ptr → Heap
  | none => H
  | some q => H.set q.b .dead
theorem app_int {H : Heap} {p : Option Ptr} {o : Nat} {P : List Int} {x : Bk} {n : Int} (h0 : P = [] → p = none ∧ o = 0) (h1 : P ≠ [] → ∃ c, p = some ⟨c, 0⟩ ∧ o = 1 ∧ H.get c = some (.rows false 1 (rowsI P))) (hx : H.get x = some (.rows false 1 [[.int .i64 n]])) (hmax : P.length < 1000000) :
    appendV 1 8 H (.slice p P.length P.length o) (.slice (some ⟨x, 0⟩) 1 1 0) = some (.slice (some ⟨.run H.next, 0⟩) (P.length + 1) (P.length + 1) 1, (killP H p).add (.rows false 1 (rowsI (P ++ [n])))) := by
  have he : elems H x 1 1 0 = some [[.int .i64 n]] := by
    simp only [elems]
    rw [loadAt_eq hx (r := [.int .i64 n]) rfl]
    rfl
  by_cases hP : P = []
  · obtain ⟨rfl, rfl⟩ := h0 hP
    subst hP
    simp only [appendV, lenOf, nbeq, nble, firstE, he]
    simp [elems, rowsI, killP]
  · obtain ⟨c, rfl, rfl, hg⟩ := h1 hP
    have hlen : (rowsI P).length = P.length := by simp [rowsI]
    simp only [appendV, lenOf, nbeq, nble, firstE, he, hg]
    have e1 : (P.length + 1) * 8 ≤ 1099511627776 := by omega
    have e2 : P.length + 1 ≤ 1099511627776 := by omega
    simp [mul_eq, add_eq, div_eq, e1, e2, hlen, rowsI, killP, Nat.mod_one]

end Go.Proofs.YtpmdbbdidafehaaGreat.disk


/-
  A device's methods, whatever is asked of it.
-/
set_option linter.unusedVariables false
set_option linter.unusedSimpArgs false
set_option maxRecDepth 10000
namespace Go.Proofs.YtpmdbbdidafehaaGreat.disk
open Go.Am

/-- (*ashlar/disk.Disk).Fail -/
noncomputable def c57 : CFn := ⟨[.tmp (pp 2)],
 .seq (.reg [
 qo 2 (.p (S.get (ii 0))) []]) (
 .seq (.seq (.reg [
 mv 3 0,
 qo 4 (.c (callF (ff 109) [(tt 3)])) [pp 3]]) (
 .cond (tt 4) (.seq (.reg [
 qo 2 (.p (S.get (ii 1))) []]) (
 .ret)) (.skip))) (
 .seq (.reg [
 mv 5 0,
 mv 6 0,
 qo 7 (.p (nilcF (tt 5))) [pp 5],
 qo 8 (.p (faddrF (tt 7) 2)) [pp 7],
 qn (.a (storeF (tt 8) (.c (.bool true)) 1)) [pp 8],
 qo 9 (.p (nilcF (tt 6))) [pp 6],
 qo 10 (.p (faddrF (tt 9) 1)) [pp 9],
 qn (.a (storeF (tt 10) (.c (.slice none 0 0 0)) 1)) [pp 10]]) (
 .seq (.reg [
 qo 2 (.p (S.get (ii 0))) []]) (
 .ret))))⟩
theorem c57_eq : fnOf Tryz.prog 57 = some c57 := by kernel_rfl

/-- (*ashlar/disk.Disk).Sectors -/
noncomputable def c119 : CFn := ⟨[.tmp (pp 2)],
 .seq (.reg [
 qo 2 (.p (S.get (ii 0))) []]) (
 .seq (.seq (.reg [
 mv 3 0,
 qo 4 (.c (callF (ff 109) [(tt 3)])) [pp 3]]) (
 .cond (tt 4) (.seq (.reg [
 qo 2 (.p (S.get (ii 0))) []]) (
 .ret)) (.skip))) (
 .seq (.reg [
 mv 5 0,
 qo 6 (.p (nilcF (tt 5))) [pp 5],
 qo 7 (.p (faddrF (tt 6) 0)) [pp 6],
 qo 8 (.r (loadF (tt 7) 1 .sc)) [pp 7],
 qo 9 (.p (lenF (tt 8))) [pp 8],
 mv 2 9]) (
 .ret)))⟩
theorem c119_eq : fnOf Tryz.prog 119 = some c119 := by kernel_rfl


def code (D : Dev) (n : Int) : Int := if n < 0 ∨ (D.S.length : Int) ≤ n then 2 else if D.dead = true then 9 else 0
theorem code_out {D : Dev} {n : Int} (h : n < 0 ∨ (D.S.length : Int) ≤ n) : code D n = 2 := if_pos h
theorem code_dead {D : Dev} {n : Int} (h : ¬ (n < 0 ∨ (D.S.length : Int) ≤ n)) (hd : D.dead = true) : code D n = 9 := by unfold code; rw [if_neg h, if_pos hd]
theorem code_ok {D : Dev} {n : Int} (h : ¬ (n < 0 ∨ (D.S.length : Int) ≤ n)) (hd : D.dead = false) : code D n = 0 := by unfold code; rw [if_neg h, hd]; rfl
/-- two ways it goes: a sector that is there, of a device that lives; or an error -/
theorem code_cases (D : Dev) (n : Int) : (∃ k : Nat, n = (k : Int) ∧ k < D.S.length ∧ D.dead = false ∧ code D n = 0) ∨ code D n = 2 ∨ code D n = 9 := by
  by_cases h : n < 0 ∨ (D.S.length : Int) ≤ n
  · exact .inr (.inl (code_out h))
  · cases hd : D.dead with
    | true => exact .inr (.inr (code_dead h hd))
    | false =>
      have h' : 0 ≤ n ∧ n < (D.S.length : Int) := by omega
      exact .inl ⟨n.toNat, by omega, by omega, rfl, code_ok h hd⟩

theorem asked_code {H : Heap} {b : Bk} {y : Lay} {D : Dev} (h : DevAt H b y D) (hS : D.S ≠ []) (n : Int) (lf m : Nat) : ret (callS Tryz.prog S0 lf (m + 2) 107 [.ptr (some ⟨b, 0⟩), .int .i64 n] H) fun v H' => v = .int .i64 (code D n) ∧ H' = H := by
  by_cases hout : n < 0 ∨ (D.S.length : Int) ≤ n
  · rw [code_out hout]
    have h0 := load0 h
    refine ret_call rfl c107_eq ?_
    obtain ⟨v, H1, e, rfl, rfl⟩ := none_ret h hS lf m
    by_cases hlt : n < 0
    · simp only [c107, e, h0, hlt, sy, tup, ↓reduceIte, Nat.reduceEqDiff, Nat.reduceAdd, Nat.reduceSub, Nat.reduceMul, Nat.reduceDiv, Nat.reduceMod, Nat.reduceLeDiff, Int.reduceBEq, reduceCtorEq]
      simp
    · have hge : (D.S.length : Int) ≤ n := by omega
      simp only [c107, e, h0, hlt, hge, sy, tup, ↓reduceIte, Nat.reduceEqDiff, Nat.reduceAdd, Nat.reduceSub, Nat.reduceMul, Nat.reduceDiv, Nat.reduceMod, Nat.reduceLeDiff, Int.reduceBEq, reduceCtorEq]
      simp
  · cases hd : D.dead with
    | false =>
      rw [code_ok hout hd]
      obtain ⟨k, rfl⟩ : ∃ k : Nat, n = (k : Int) := ⟨n.toNat, by omega⟩
      exact asked_ok h (by omega) hd lf m
    | true =>
      rw [code_dead hout hd]
      have h0 := load0 h
      have h2 := load2 h
      have hlt : ¬ (n < 0) := by omega
      have hge : ¬ ((D.S.length : Int) ≤ n) := by omega
      refine ret_call rfl c107_eq ?_
      obtain ⟨v, H1, e, rfl, rfl⟩ := none_ret h hS lf m
      simp only [c107, e, h0, h2, hd, hlt, hge, sy, tup, ↓reduceIte, Nat.reduceEqDiff, Nat.reduceAdd, Nat.reduceSub, Nat.reduceMul, Nat.reduceDiv, Nat.reduceMod, Nat.reduceLeDiff, Int.reduceBEq, reduceCtorEq]
      simp

theorem Next.idle {H H' : Heap} {b : Bk} {y : Lay} {D : Dev} (h : DevAt H b y D) (k : Turns Z H H') : Next H b y D H' y D :=
  ⟨h.turns k id id (fun _ => id), k.wide (fun c hc => hc.elim), rfl, fun e => .inl ⟨e, rfl⟩⟩

def Dev.write (D : Dev) (n : Int) (B : Nat) : Dev := if code D n = 0 then { D with L := D.L ++ [(n.toNat, B)] } else D
noncomputable def Dev.read (D : Dev) (n : Int) : Nat := if code D n = 0 then readN D n.toNat else 0
def Dev.sure (D : Dev) (n : Int) : Nat := if code D n = 0 then D.S.getD n.toNat 0 else 0
def Dev.flush (D : Dev) : Dev := if D.dead = true then D else { D with S := flushS D.S D.L, L := [] }
def fcode (D : Dev) : Int := if D.dead = true then 9 else 0
def rcode (D : Dev) (n j : Int) : Int := if code D n = 2 ∨ j < 0 ∨ 64 ≤ j then 2 else code D n
noncomputable def Dev.rot (D : Dev) (n j : Int) (by' : Nat) : Dev := if rcode D n j = 0 then { D with S := D.S.set n.toNat (rotN (D.S.getD n.toNat 0) j.toNat by') } else D
def Dev.crash (D : Dev) (P : List Int) : Dev := { D with S := crashS D.S (D.L.zip P), L := [] }
def Dev.fail (D : Dev) : Dev := { D with L := [], dead := true }

theorem write_all {H : Heap} {b : Bk} {y : Lay} {D : Dev} (h : DevAt H b y D) (hS : D.S ≠ []) (hmax : D.L.length < 1000000) (n : Int) (B : Nat) (lf m : Nat) :
    ret (callS Tryz.prog S0 lf (m + 3) 51 [.ptr (some ⟨b, 0⟩), .int .i64 n, .blk B] H) fun v H' => v = .int .i64 (code D n) ∧ ∃ y', Next H b y D H' y' (D.write n B) := by
  have err : ∀ z : Int, z = 2 ∨ z = 9 → code D n = z → ret (callS Tryz.prog S0 lf (m + 3) 51 [.ptr (some ⟨b, 0⟩), .int .i64 n, .blk B] H) fun v H' => v = .int .i64 (code D n) ∧ ∃ y', Next H b y D H' y' (D.write n B) := by
    intro z hz hc
    have hw : D.write n B = D := if_neg (by rw [hc]; omega)
    have t1 := Turns.add Z H (.rows false 64 [[.blk B]])
    have h' := h.turns t1 id id (fun _ => id)
    have hz0 : (z == 0) = false := by simp; omega
    refine ret_call rfl c51_eq ?_
    obtain ⟨v, H1, e, rfl, e1⟩ := asked_code h' hS n lf m
    subst e1
    rw [hc] at e
    simp only [c51, e, hz0, sy, tup, ↓reduceIte, Nat.reduceEqDiff, Nat.reduceAdd, Nat.reduceSub, Nat.reduceMul, Nat.reduceDiv, Nat.reduceMod, Nat.reduceLeDiff, Int.reduceBEq, reduceCtorEq]
    rw [hw, hc]
    exact ⟨trivial, .inr trivial, _, rfl, rfl, y, Next.idle h t1⟩
  rcases code_cases D n with ⟨k, rfl, hk, hd, hc⟩ | hc | hc
  · rw [hc]
    have hw : D.write (k : Int) B = { D with L := D.L ++ [(k, B)] } := if_pos hc
    rw [hw]
    exact write_ok h hk hd hmax B lf m
  · exact err 2 (.inl rfl) hc
  · exact err 9 (.inr rfl) hc

theorem read_all {H : Heap} {b : Bk} {y : Lay} {D : Dev} (h : DevAt H b y D) (hS : D.S ≠ []) {lf : Nat} (hlf : D.L.length + 1 < lf) (hmax : D.L.length < 1000000) (n : Int) (m : Nat) :
    ret (callS Tryz.prog S0 lf (m + 3) 106 [.ptr (some ⟨b, 0⟩), .int .i64 n] H) fun v H' => v = .tuple [.blk (D.read n), .int .i64 (code D n)] ∧ Turns Z H H' := by
  have err : ∀ z : Int, z = 2 ∨ z = 9 → code D n = z → ret (callS Tryz.prog S0 lf (m + 3) 106 [.ptr (some ⟨b, 0⟩), .int .i64 n] H) fun v H' => v = .tuple [.blk (D.read n), .int .i64 (code D n)] ∧ Turns Z H H' := by
    intro z hz hc
    have hw : D.read n = 0 := if_neg (by rw [hc]; omega)
    have t1 := Turns.add Z H (.rows false 64 [[.blk 0]])
    have h' := h.turns t1 id id (fun _ => id)
    have hz0 : (z == 0) = false := by simp; omega
    refine ret_call rfl c106_eq ?_
    obtain ⟨v, H1, e, rfl, e1⟩ := asked_code h' hS n lf m
    subst e1
    rw [hc] at e
    simp only [c106, e, hz0, sy, tup, ↓reduceIte, Nat.reduceEqDiff, Nat.reduceAdd, Nat.reduceSub, Nat.reduceMul, Nat.reduceDiv, Nat.reduceMod, Nat.reduceLeDiff, Int.reduceBEq, reduceCtorEq]
    rw [hw, hc]
    exact ⟨trivial, .inr trivial, _, rfl, rfl, t1.setnew (Nat.le_refl _) _⟩
  rcases code_cases D n with ⟨k, rfl, hk, hd, hc⟩ | hc | hc
  · have hw : D.read (k : Int) = readN D k := if_pos hc
    rw [hc, hw]
    exact read_ok h hk hd hlf hmax m
  · exact err 2 (.inl rfl) hc
  · exact err 9 (.inr rfl) hc

theorem sure_all {H : Heap} {b : Bk} {y : Lay} {D : Dev} (h : DevAt H b y D) (hS : D.S ≠ []) (n : Int) (lf m : Nat) :
    ret (callS Tryz.prog S0 lf (m + 3) 90 [.ptr (some ⟨b, 0⟩), .int .i64 n] H) fun v H' => v = .tuple [.blk (D.sure n), .int .i64 (code D n)] ∧ Turns Z H H' := by
  have err : ∀ z : Int, z = 2 ∨ z = 9 → code D n = z → ret (callS Tryz.prog S0 lf (m + 3) 90 [.ptr (some ⟨b, 0⟩), .int .i64 n] H) fun v H' => v = .tuple [.blk (D.sure n), .int .i64 (code D n)] ∧ Turns Z H H' := by
    intro z hz hc
    have hw : D.sure n = 0 := if_neg (by rw [hc]; omega)
    have t1 := Turns.add Z H (.rows false 64 [[.blk 0]])
    have h' := h.turns t1 id id (fun _ => id)
    have hz0 : (z == 0) = false := by simp; omega
    refine ret_call rfl c90_eq ?_
    obtain ⟨v, H1, e, rfl, e1⟩ := asked_code h' hS n lf m
    subst e1
    rw [hc] at e
    simp only [c90, e, hz0, sy, tup, ↓reduceIte, Nat.reduceEqDiff, Nat.reduceAdd, Nat.reduceSub, Nat.reduceMul, Nat.reduceDiv, Nat.reduceMod, Nat.reduceLeDiff, Int.reduceBEq, reduceCtorEq]
    rw [hw, hc]
    exact ⟨trivial, .inr trivial, _, rfl, rfl, t1.setnew (Nat.le_refl _) _⟩
  rcases code_cases D n with ⟨k, rfl, hk, hd, hc⟩ | hc | hc
  · have hw : D.sure (k : Int) = D.S[k] := by unfold Dev.sure; rw [if_pos hc]; exact getD_lt hk
    rw [hc, hw]
    exact sure_ok h hk hd lf m
  · exact err 2 (.inl rfl) hc
  · exact err 9 (.inr rfl) hc

theorem flush_all {H : Heap} {b : Bk} {y : Lay} {D : Dev} (h : DevAt H b y D) (hS : D.S ≠ []) (hok : ∀ w ∈ D.L, w.1 < D.S.length) (hmax : D.L.length < 1000000) {lf : Nat} (hlf : D.L.length + 1 < lf) (m : Nat) :
    ret (callS Tryz.prog S0 lf (m + 3) 61 [.ptr (some ⟨b, 0⟩)] H) fun v H' => v = .int .i64 (fcode D) ∧ ∃ y', Next H b y D H' y' D.flush := by
  have hpos : 0 < D.S.length := by cases hc : D.S with
    | nil => exact absurd hc hS
    | cons a l => simp
  cases hd : D.dead with
  | false =>
    have e1 : fcode D = 0 := by unfold fcode; rw [hd]; rfl
    have e2 : D.flush = { D with S := flushS D.S D.L, L := [] } := by unfold Dev.flush; rw [hd]; rfl
    rw [e1, e2]
    exact (flush_ok h hS hd hok hmax hlf m).mono (fun v H' hv => ⟨hv.1, _, hv.2⟩)
  | true =>
    have e1 : fcode D = 9 := by unfold fcode; rw [hd]; rfl
    have e2 : D.flush = D := by unfold Dev.flush; rw [hd]; rfl
    have hc : code D 0 = 9 := code_dead (by omega) hd
    rw [e1, e2]
    refine ret_call rfl c61_eq ?_
    obtain ⟨v, H1, e, rfl, e3⟩ := asked_code h hS 0 lf m
    subst e3
    rw [hc] at e
    simp only [c61, e, sy, tup, ↓reduceIte, Nat.reduceEqDiff, Nat.reduceAdd, Nat.reduceSub, Nat.reduceMul, Nat.reduceDiv, Nat.reduceMod, Nat.reduceLeDiff, Int.reduceBEq, reduceCtorEq]
    exact ⟨trivial, .inr trivial, _, rfl, rfl, y, Next.idle h (Turns.refl _ _)⟩

theorem put_own2 (a c d v : V) (ha : a.asBlk = none) (hc : c.asBlk = none) (hd : d.asBlk = none) (hv : v.flat = true) : put [a, c, d] 2 [v] = some [a, c, v] := by
  rw [show 2 = 1 + 1 from rfl, put_miss _ _ _ _ _ ha, show 1 = 0 + 1 from rfl, put_miss _ _ _ _ _ hc, put_hit _ _ _ hd hv]; rfl
theorem storeDead {H : Heap} {b : Bk} {y : Lay} {D : Dev} (h : DevAt H b y D) (x : Bool) : storeAt H ⟨b, 2⟩ [.bool x] = some (H.set b (.rows false 3 [[.slice (some ⟨y.s, 0⟩) D.S.length D.S.length y.so, .slice y.p D.L.length D.L.length y.o, .bool x]])) :=
  storeAt_eq h.own (r := [.slice (some ⟨y.s, 0⟩) D.S.length D.S.length y.so, .slice y.p D.L.length D.L.length y.o, .bool D.dead]) rfl (put_own2 _ _ _ _ rfl rfl rfl rfl)
theorem DevAt.kill {H : Heap} {b : Bk} {y : Lay} {D : Dev} (h : DevAt H b y D) (x : Bool) : DevAt (H.set b (.rows false 3 [[.slice (some ⟨y.s, 0⟩) D.S.length D.S.length y.so, .slice y.p D.L.length D.L.length y.o, .bool x]])) b y { D with dead := x } := by
  refine ⟨?_, ?_, h.nil, fun e => ⟨(h.loose e).1, (h.loose e).2.1, ?_⟩, ?_, h.ne⟩
  · rw [Heap.get_set, if_pos rfl]
  · rw [Heap.get_set, if_neg (Ne.symm h.ne.1)]; exact h.sure
  · rw [Heap.get_set, if_neg (Ne.symm (h.ne.2 e).1)]; exact (h.loose e).2.2
  · simpa using h.old

theorem fail_next {H : Heap} {b : Bk} {y : Lay} {D : Dev} (h : DevAt H b y D) : ∃ o1 o2, storeAt H ⟨b, 2⟩ [.bool true] = some (H.set b o1) ∧ storeAt (H.set b o1) ⟨b, 1⟩ [.slice none 0 0 0] = some ((H.set b o1).set b o2) ∧ Next H b y D ((H.set b o1).set b o2) { y with p := none, o := 0 } D.fail :=
  ⟨_, _, storeDead h true, storeNil (h.kill true), (h.kill true).clear true, (Turns.set (.inl rfl) _ _).setm (.inl rfl) _, rfl, fun e => absurd rfl e⟩

theorem fail_ok {H : Heap} {b : Bk} {y : Lay} {D : Dev} (h : DevAt H b y D) (hS : D.S ≠ []) (lf m : Nat) : ret (callS Tryz.prog S0 lf (m + 2) 57 [.ptr (some ⟨b, 0⟩)] H) fun v H' => v = .int .i64 0 ∧ ∃ y', Next H b y D H' y' D.fail := by
  refine ret_call rfl c57_eq ?_
  obtain ⟨v, H1, e, rfl, e1⟩ := none_ret h hS lf m
  subst e1
  obtain ⟨o1, o2, s1, s2, hN⟩ := fail_next h
  simp only [c57, e, s1, s2, sy, tup, ↓reduceIte, Nat.reduceEqDiff, Nat.reduceAdd, Nat.reduceSub, Nat.reduceMul, Nat.reduceDiv, Nat.reduceMod, Nat.reduceLeDiff, Int.reduceBEq, reduceCtorEq]
  exact ⟨trivial, .inr trivial, _, rfl, rfl, _, hN⟩

theorem sectors_ok {H : Heap} {b : Bk} {y : Lay} {D : Dev} (h : DevAt H b y D) (hS : D.S ≠ []) (lf m : Nat) : ret (callS Tryz.prog S0 lf (m + 2) 119 [.ptr (some ⟨b, 0⟩)] H) fun v H' => v = .int .i64 (D.S.length : Int) ∧ H' = H := by
  have l0 := load0 h
  refine ret_call rfl c119_eq ?_
  obtain ⟨v, H1, e, rfl, rfl⟩ := none_ret h hS lf m
  simp only [c119, e, l0, sy, tup, ↓reduceIte, Nat.reduceEqDiff, Nat.reduceAdd, Nat.reduceSub, Nat.reduceMul, Nat.reduceDiv, Nat.reduceMod, Nat.reduceLeDiff, Int.reduceBEq, reduceCtorEq]
  simp

end Go.Proofs.YtpmdbbdidafehaaGreat.disk


/-
  What a device keeps, whatever is done.
-/
set_option linter.unusedVariables false
set_option linter.unusedSimpArgs false
namespace Go.Proofs.YtpmdbbdidafehaaGreat.disk
open Go.Am

structure Wf (D : Dev) (n k : Nat) : Prop where
  len : D.S.length = n
  pos : 0 < n
  ok : ∀ w ∈ D.L, w.1 < D.S.length
  le : D.L.length ≤ k
theorem Wf.ne {D : Dev} {n k : Nat} (h : Wf D n k) : D.S ≠ [] := fun e => by
  have h1 := h.len
  have h2 := h.pos
  rw [e] at h1
  simp at h1
  omega
theorem Wf.write {D : Dev} {n k : Nat} (h : Wf D n k) (i : Int) (B : Nat) : Wf (D.write i B) n (k + 1) := by
  rcases code_cases D i with ⟨j, rfl, hj, hd, hc⟩ | hc | hc
  · have e : D.write (j : Int) B = { D with L := D.L ++ [(j, B)] } := if_pos hc
    rw [e]
    refine ⟨h.len, h.pos, fun w hw => ?_, by have := h.le; simp; omega⟩
    rcases List.mem_append.1 hw with hw | hw
    · exact h.ok w hw
    · rw [List.mem_singleton.1 hw]; exact hj
  · have e : D.write i B = D := if_neg (by rw [hc]; decide)
    rw [e]; exact ⟨h.len, h.pos, h.ok, by have := h.le; omega⟩
  · have e : D.write i B = D := if_neg (by rw [hc]; decide)
    rw [e]; exact ⟨h.len, h.pos, h.ok, by have := h.le; omega⟩
theorem Wf.flush {D : Dev} {n k : Nat} (h : Wf D n k) : Wf D.flush n (k + 1) := by
  unfold Dev.flush
  split
  · exact ⟨h.len, h.pos, h.ok, by have := h.le; omega⟩
  · exact ⟨by rw [← h.len]; exact flushS_length _ _, h.pos, fun w hw => absurd hw (by simp), Nat.zero_le _⟩
theorem Wf.rot {D : Dev} {n k : Nat} (h : Wf D n k) (i j : Int) (x : Nat) : Wf (D.rot i j x) n (k + 1) := by
  unfold Dev.rot
  split
  · exact ⟨by rw [← h.len]; simp, h.pos, fun w hw => by simpa using h.ok w hw, by have := h.le; show D.L.length ≤ k + 1; omega⟩
  · exact ⟨h.len, h.pos, h.ok, by have := h.le; omega⟩
theorem Wf.crash {D : Dev} {n k : Nat} (h : Wf D n k) (P : List Int) : Wf (D.crash P) n (k + 1) :=
  ⟨by rw [← h.len]; exact crashS_length _ _, h.pos, fun w hw => absurd hw (by simp [Dev.crash]), Nat.zero_le _⟩
theorem Wf.fail {D : Dev} {n k : Nat} (h : Wf D n k) : Wf D.fail n (k + 1) := ⟨h.len, h.pos, fun w hw => absurd hw (by simp [Dev.fail]), Nat.zero_le _⟩
theorem Wf.mono {D : Dev} {n k : Nat} (h : Wf D n k) : Wf D n (k + 1) := ⟨h.len, h.pos, h.ok, by have := h.le; omega⟩


end Go.Proofs.YtpmdbbdidafehaaGreat.disk

