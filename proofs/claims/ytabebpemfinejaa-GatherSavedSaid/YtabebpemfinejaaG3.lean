import Derived.Test.YtabebpemfinejaaG2
set_option linter.unusedVariables false
set_option linter.unusedSimpArgs false
set_option maxRecDepth 10000
namespace Go.Proofs.Ytabebpemfinejaa.draft
open Go.Am
noncomputable def c66 : CFn := ⟨[.tmp (pp 2), .cell (pp 3) 23 .ag, .tmp (pp 4)],
 .seq (.reg [
 qo 1 (.m (boxF 64 (tt 0))) [pp 0],
 qo 2 (.p (S.get (.c (.int .u64 0)))) [],
 qo 3 (.m (allocF 23 [.int .u64 0, .int .i64 0, .int .i64 0, .int .i64 0, .int .i64 0, .int .u8 0, .int .u8 0, .int .u8 0, .int .u8 0, .int .u8 0, .int .u8 0, .int .u8 0, .int .u8 0, .int .u8 0, .int .u8 0, .int .u8 0, .int .u8 0, .int .u8 0, .int .u8 0, .int .u8 0, .int .u8 0, .int .i64 0, .bool false])) [],
 qo 4 (.p (S.get (ii 0))) []]) (
 .seq (.reg [
 qo 15 (.r (loadF (tt 1) 64 .bk)) [pp 1],
 qo 16 (.c (callF (ff 73) [(tt 15)])) [pp 15],
 mv 14 16,
 qo 17 (.p (extF (tt 14) 0)) [pp 14],
 qo 18 (.p (extF (tt 14) 1)) [pp 14],
 qo 19 (.p (extF (tt 14) 2)) [pp 14],
 mv 5 17,
 mv 6 18,
 mv 7 19]) (
 .seq (.seq (.reg [
 mv 20 7,
 qo 21 (.p (eqcF true false [.int .i64] (tt 20) (ii 0))) [pp 20]]) (
 .cond (tt 21) (.seq (.reg [
 qo 22 (.p (buildF [.int .u64 0, .int .i64 0, .int .i64 0, .int .i64 0, .int .i64 0, .int .u8 0, .int .u8 0, .int .u8 0, .int .u8 0, .int .u8 0, .int .u8 0, .int .u8 0, .int .u8 0, .int .u8 0, .int .u8 0, .int .u8 0, .int .u8 0, .int .u8 0, .int .u8 0, .int .u8 0, .int .u8 0, .int .i64 0, .bool false] .ag [])) [],
 mv 23 7,
 qo 2 (.p (S.get (.c (.int .u64 0)))) [],
 qn (.a (storeF (tt 3) (tt 22) 23)) [pp 3, pp 22],
 mv 4 23]) (
 .ret)) (.skip))) (
 .seq (.reg [
 mv 24 6,
 qo 25 (.p (buildF [.slice none 0 0 0, .int .i64 0] .ag [(0, 1, (tt 24))])) [pp 24],
 qo 26 (.m (boxF 2 (tt 25))) [pp 25],
 mv 8 26]) (
 .seq (.reg [
 mv 27 8,
 qo 28 (.c (callF (ff 74) [(tt 27), (ii 8)])) [pp 27],
 qo 29 (.p (buildF [.int .u64 0, .int .i64 0, .int .i64 0, .int .i64 0, .int .i64 0, .int .u8 0, .int .u8 0, .int .u8 0, .int .u8 0, .int .u8 0, .int .u8 0, .int .u8 0, .int .u8 0, .int .u8 0, .int .u8 0, .int .u8 0, .int .u8 0, .int .u8 0, .int .u8 0, .int .u8 0, .int .u8 0, .int .i64 0, .bool false] .ag [(0, 1, (tt 28))])) [pp 28],
 qo 9 (.m (allocF 23 [.int .u64 0, .int .i64 0, .int .i64 0, .int .i64 0, .int .i64 0, .int .u8 0, .int .u8 0, .int .u8 0, .int .u8 0, .int .u8 0, .int .u8 0, .int .u8 0, .int .u8 0, .int .u8 0, .int .u8 0, .int .u8 0, .int .u8 0, .int .u8 0, .int .u8 0, .int .u8 0, .int .u8 0, .int .i64 0, .bool false])) [],
 qn (.a (storeF (tt 9) (tt 29) 23)) [pp 9, pp 29]]) (
 .seq (.reg [
 mv 30 8,
 qo 31 (.c (callF (ff 74) [(tt 30), (ii 1)])) [pp 30],
 qo 32 (.p (convF .i64 (tt 31))) [pp 31],
 mv 33 8,
 qo 34 (.c (callF (ff 74) [(tt 33), (ii 2)])) [pp 33],
 qo 35 (.p (convF .i64 (tt 34))) [pp 34],
 mv 36 8,
 qo 37 (.c (callF (ff 74) [(tt 36), (ii 2)])) [pp 36],
 qo 38 (.p (convF .i64 (tt 37))) [pp 37],
 qo 39 (.p (buildF [.int .i64 0, .int .i64 0, .int .i64 0] .ag [(0, 1, (tt 32)), (1, 1, (tt 35)), (2, 1, (tt 38))])) [pp 32, pp 35, pp 38],
 qo 40 (.p (faddrF (tt 9) 2)) [pp 9],
 qo 41 (.p (faddrF (tt 40) 0)) [pp 40],
 qn (.a (storeF (tt 41) (tt 39) 3)) [pp 41, pp 39]]) (
 .seq (.reg [
 mv 42 8,
 qo 43 (.c (callF (ff 74) [(tt 42), (ii 1)])) [pp 42],
 qo 44 (.p (convF .i64 (tt 43))) [pp 43],
 qo 45 (.p (faddrF (tt 9) 1)) [pp 9],
 qn (.a (storeF (tt 45) (tt 44) 1)) [pp 45, pp 44]]) (
 .seq (.regD [
 mv 47 8,
 qo 48 (.p (nilcF (tt 47))) [pp 47],
 qo 49 (.p (faddrF (tt 48) 0)) [pp 48],
 qo 50 (.r (loadF (tt 49) 1 .sc)) [pp 49],
 mv 51 8,
 qo 52 (.p (nilcF (tt 51))) [pp 51],
 qo 53 (.p (faddrF (tt 52) 1)) [pp 52],
 qo 54 (.r (loadF (tt 53) 1 .sc)) [pp 53],
 qo 55 (.p (sliceF 1 (tt 50) (some (tt 54)) none none)) [pp 50, pp 54],
 qo 56 (.c (callF (ff 75) [(tt 55), (ii 2), (ii 16)])) [pp 55],
 mv 46 56,
 qo 57 (.p (extF (tt 46) 0)) [pp 46],
 qo 58 (.p (extF (tt 46) 1)) [pp 46],
 mv 10 57,
 mv 11 58] [0, 1, 3, 7, 0, 16, 48, 112, 255, 511, 1023, 2047, 2047, 4095, 16383]) (
 .seq (.reg [
 qo 59 (.p (faddrF (tt 9) 2)) [pp 9],
 qo 60 (.p (faddrF (tt 59) 3)) [pp 59],
 qo 61 (.p (sliceAF 16 1 (tt 60) none none none)) [pp 60],
 mv 62 10,
 qo 63 (.a (cpyF 1 (tt 61) (tt 62))) [pp 61, pp 62]]) (
 .seq (.reg [
 mv 64 8,
 qo 65 (.p (nilcF (tt 64))) [pp 64],
 qo 66 (.p (faddrF (tt 65) 1)) [pp 65],
 qo 67 (.r (loadF (tt 66) 1 .sc)) [pp 66],
 mv 68 10,
 qo 69 (.p (lenF (tt 68))) [pp 68],
 qo 70 (.p (arF .mul (tt 69) (ii 2))) [pp 69],
 qo 71 (.p (arF .quo (tt 70) (ii 8))) [pp 70],
 qo 72 (.p (arF .add (tt 67) (tt 71))) [pp 67, pp 71],
 qo 73 (.p (nilcF (tt 64))) [pp 64],
 qo 74 (.p (faddrF (tt 73) 1)) [pp 73],
 qn (.a (storeF (tt 74) (tt 72) 1)) [pp 74, pp 72]]) (
 .seq (.reg [
 mv 75 8,
 qo 76 (.c (callF (ff 74) [(tt 75), (ii 2)])) [pp 75],
 qo 77 (.p (convF .i64 (tt 76))) [pp 76],
 qo 78 (.p (faddrF (tt 9) 2)) [pp 9],
 qo 79 (.p (faddrF (tt 78) 19)) [pp 78],
 qn (.a (storeF (tt 79) (tt 77) 1)) [pp 79, pp 77]]) (
 .seq (.reg [
 mv 80 8,
 qo 81 (.c (callF (ff 74) [(tt 80), (ii 1)])) [pp 80],
 mv 12 81]) (
 .seq (.reg [
 mv 82 12,
 qo 83 (.p (eqcF false false [.int .u64] (tt 82) (.c (.int .u64 1)))) [pp 82],
 qo 84 (.p (faddrF (tt 9) 2)) [pp 9],
 qo 85 (.p (faddrF (tt 84) 20)) [pp 84],
 qn (.a (storeF (tt 85) (tt 83) 1)) [pp 85, pp 83]]) (
 .seq (.regD [
 mv 86 8,
 qo 87 (.p (nilcF (tt 86))) [pp 86],
 qo 88 (.p (faddrF (tt 87) 0)) [pp 87],
 qo 89 (.r (loadF (tt 88) 1 .sc)) [pp 88],
 mv 90 8,
 qo 91 (.p (nilcF (tt 90))) [pp 90],
 qo 92 (.p (faddrF (tt 91) 1)) [pp 91],
 qo 93 (.r (loadF (tt 92) 1 .sc)) [pp 92],
 qo 94 (.p (sliceF 1 (tt 89) (some (tt 93)) none none)) [pp 89, pp 93],
 qo 95 (.c (callF (ff 76) [(tt 94), (ff 77)])) [pp 94],
 mv 13 95] [0, 1, 3, 7, 0, 16, 48, 112, 255, 511, 1023]) (
 .seq (.seq (.reg [
 mv 96 5,
 qo 97 (.c (callF (ff 55) [(tt 96)])) [pp 96],
 qo 98 (.p (unF .not (tt 97))) [pp 97],
 mv 99 98,
 qg 100 (.r (loadF (tt 9) 23 .ag)) 99 false [pp 9],
 qg 101 (.c (callF (ff 56) [(tt 100)])) 99 false [pp 100],
 qg 102 (.p (unF .not (tt 101))) 99 false [pp 101],
 qo 103 (.p (pickF (tt 99) (.c (.bool true)) (tt 102))) [pp 99, pp 102],
 mv 104 103,
 mg 105 12 104 false,
 qg 106 (.p (arF .gtr (tt 105) (.c (.int .u64 1)))) 104 false [pp 105],
 qo 107 (.p (pickF (tt 104) (.c (.bool true)) (tt 106))) [pp 104, pp 106],
 mv 108 107,
 mg 109 13 108 false,
 qo 110 (.p (pickF (tt 108) (.c (.bool true)) (tt 109))) [pp 108, pp 109]]) (
 .cond (tt 110) (.seq (.reg [
 qo 111 (.p (buildF [.int .u64 0, .int .i64 0, .int .i64 0, .int .i64 0, .int .i64 0, .int .u8 0, .int .u8 0, .int .u8 0, .int .u8 0, .int .u8 0, .int .u8 0, .int .u8 0, .int .u8 0, .int .u8 0, .int .u8 0, .int .u8 0, .int .u8 0, .int .u8 0, .int .u8 0, .int .u8 0, .int .u8 0, .int .i64 0, .bool false] .ag [])) [],
 qo 2 (.p (S.get (.c (.int .u64 0)))) [],
 qn (.a (storeF (tt 3) (tt 111) 23)) [pp 3, pp 111],
 qo 4 (.p (S.get (ii 5))) []]) (
 .ret)) (.skip))) (
 .seq (.regD [
 mv 112 5,
 qo 113 (.r (loadF (tt 9) 23 .ag)) [pp 9],
 mv 2 112,
 qn (.a (storeF (tt 3) (tt 113) 23)) [pp 3, pp 113],
 qo 4 (.p (S.get (ii 0))) []] [0, 0, 1, 7, 15]) (
 .ret))))))))))))))))⟩
theorem c66_eq : fnOf Try.prog 66 = some c66 := by kernel_rfl
theorem put_one : ∀ {cs : List V} {o : Nat} {v : V}, Thin cs → o < cs.length → v.flat = true → put cs o [v] = some (cs.set o v)
  | c :: cs, 0, v, h, _, hv => by
    have h1 : c.asBlk = none := h c (List.mem_cons_self ..)
    unfold put
    simp only [h1, show Nat.beq 0 0 = true from rfl, hv]
    cases cs <;> rfl
  | c :: cs, o + 1, v, h, hl, hv => by
    have h1 : c.asBlk = none := h c (List.mem_cons_self ..)
    unfold put
    simp only [h1, show Nat.beq (o + 1) 0 = false from rfl]
    rw [show Nat.sub (o + 1) 1 = o from rfl, put_one (fun v hv => h v (List.mem_cons_of_mem _ hv)) (by simpa using hl) hv]
    rfl
  | [], o, v, _, hl, _ => by simp at hl
theorem thin_set {cs : List V} {o : Nat} {v : V} (h : Thin cs) (hv : v.asBlk = none) : Thin (cs.set o v) := fun u hu => by
  rcases List.mem_or_eq_of_mem_set hu with hu | rfl
  · exact h u hu
  · exact hv
def laid (row : List V) : Nat → List Nat → List V
  | _, [] => row
  | o, x :: xs => laid (row.set o (.int .u8 (x : Int))) (o + 1) xs
def cellB (x : Nat) : List V := [.int .u8 (x : Int)]
theorem store_cells {b : Bk} {W : Nat} : ∀ (xs : List Nat) (o : Nat) (H : Heap) (row : List V), H.get b = some (.rows false W [row]) → row.length = W → Thin row → o + xs.length ≤ W →
    ∃ H', storeElems b 1 (xs.map cellB) o H = some H' ∧ H'.get b = some (.rows false W [laid row o xs]) ∧ Turns (fun c => c = b) H H' ∧ H'.next = H.next
  | [], o, H, row, h, hl, ht, hn => ⟨H, rfl, h, Turns.refl _ _, rfl⟩
  | x :: xs, o, H, row, h, hl, ht, hn => by
    rw [List.length_cons] at hn
    have hW : o / W = 0 := Nat.div_eq_of_lt (by omega)
    have hM : o % W = o := Nat.mod_eq_of_lt (by omega)
    have st : storeAt H ⟨b, o⟩ (cellB x) = some (H.set b (.rows false W [row.set o (.int .u8 (x : Int))])) := by
      have := storeAt_eq h (o := o) (vs := cellB x) (r := row) (r' := row.set o (.int .u8 (x : Int))) (by rw [hW]; rfl) (by rw [hM]; exact put_one ht (by omega) rfl)
      rw [hW] at this
      exact this
    obtain ⟨H', e, hg, hT, hx⟩ := store_cells (b := b) (W := W) xs (o + 1) (H.set b (.rows false W [row.set o (.int .u8 (x : Int))])) (row.set o (.int .u8 (x : Int))) (by rw [Heap.get_set, if_pos rfl]) (by simpa using hl) (thin_set ht rfl) (by omega)
    refine ⟨H', ?_, hg, (Turns.set (X := fun c => c = b) rfl H _).trans hT, by rw [hx]; simp⟩
    show (match storeAt H ⟨b, o⟩ (cellB x) with | some H' => storeElems b 1 (xs.map cellB) (Nat.add o 1) H' | none => none) = _
    rw [st]
    exact e
def stl (f : Nat → Nat) : Nat → Nat → List Nat
  | 0, _ => []
  | n + 1, j => f j :: stl f n (j + 1)
theorem stl_len (f : Nat → Nat) : ∀ n j, (stl f n j).length = n
  | 0, _ => rfl
  | n + 1, j => by simp [stl, stl_len f n (j + 1)]
theorem elems_rows {H : Heap} {k : Nat} {f : Nat → Nat} {N : Nat} (h : H.get (.run k) = some (.rows false 1 (rowsB f N 0))) : ∀ n j, j + n ≤ N → elems H (.run k) 1 n j = some ((stl f n j).map cellB)
  | 0, _, _ => rfl
  | n + 1, j, hj => by
    unfold elems
    have l : loadAt H ⟨.run k, j⟩ 1 = some [.int .u8 (f j : Int)] := by
      rw [loadAt_eq h (r := [.int .u8 (f j : Int)]) (by rw [Nat.div_one, nth_eq, rowsB_get f N 0 j (by omega), Nat.zero_add]), Nat.mod_one]
      rfl
    rw [l]
    simp only
    rw [show Nat.add j 1 = j + 1 from rfl, elems_rows h n (j + 1) (by omega)]
    rfl
theorem copy_states {H : Heap} {b k : Nat} {f : Nat → Nat} {row : List V} (hk : H.get (.run k) = some (.rows false 1 (rowsB f 16 0))) (hb : H.get (.run b) = some (.rows false 23 [row])) (hl : row.length = 23) (ht : Thin row) :
    ∃ H', copyV 1 H (.slice (some ⟨.run b, 5⟩) 16 16 0) (.slice (some ⟨.run k, 0⟩) 16 16 0) = some (.int .i64 16, H') ∧ H'.get (.run b) = some (.rows false 23 [laid row 5 (stl f 16 0)]) ∧ Turns (fun c => c = .run b) H H' ∧ H'.next = H.next := by
  obtain ⟨H', e, hg, hT, hx⟩ := store_cells (b := .run b) (W := 23) (stl f 16 0) 5 H row hb hl ht (by rw [stl_len]; omega)
  refine ⟨H', ?_, hg, hT, hx⟩
  have he := elems_rows hk 16 0 (by omega)
  unfold copyV
  simp only [lenOf, firstE]
  rw [show min 16 16 = 16 from rfl, he]
  simp only [show Nat.beq 16 0 = false from rfl, e]
  rfl
noncomputable def bc (B i : Nat) : Nat := byte B (8 + i)
theorem bc_lt (B i : Nat) : bc B i < 256 := byte_lt _ _
noncomputable def fld (B a sz : Nat) : Nat := leN (fun i => bc B (a + i)) sz
noncomputable def gSt (B : Nat) : List Nat := stl (twoB fun i => bc B (14 + i)) 16 0
noncomputable def gSup (B : Nat) : V := sup (fld B 0 8) (fld B 13 1) (fld B 8 1) (fld B 9 2) (fld B 11 2) (gSt B) (fld B 18 2) (((fld B 20 1 : Nat) : Int) == 1)
def isSup (B : Nat) : Prop := evt (sealN B) = true ∧ smay (fld B 0 8) (fld B 13 1) (fld B 8 1) (fld B 9 2) (fld B 11 2) (gSt B) (fld B 18 2) ∧ fld B 20 1 ≤ 1 ∧ zeroTo (fun i => bc B (21 + i)) 23
open Classical in
noncomputable def getE (B : Nat) : Int := if sealE B ≠ 0 then sealE B else if isSup B then 0 else 5
def zrow : List V := [.int .u64 0, .int .i64 0, .int .i64 0, .int .i64 0, .int .i64 0, .int .u8 0, .int .u8 0, .int .u8 0, .int .u8 0, .int .u8 0, .int .u8 0, .int .u8 0, .int .u8 0, .int .u8 0, .int .u8 0, .int .u8 0, .int .u8 0, .int .u8 0, .int .u8 0, .int .u8 0, .int .u8 0, .int .i64 0, .bool false]
structure GI (H0 : Heap) (b8 b9 b3 kb : Nat) (c : Nat → Nat) (H : Heap) (a : Nat) (row : List V) : Prop where
  rd : H.get (.run b8) = some (rdr kb a)
  sp : H.get (.run b9) = some (.rows false 23 [row])
  an : H.get (.run b3) = some (.rows false 23 [zrow])
  body : BodyAt H kb c 44
  t : Turns Z H0 H
  lo : H0.next ≤ b8 ∧ H0.next ≤ b9 ∧ H0.next ≤ b3
  hi : b8 < H.next ∧ b9 < H.next ∧ b3 < H.next
  ne : b8 ≠ b9 ∧ b8 ≠ b3 ∧ b9 ≠ b3 ∧ kb ≠ b8 ∧ kb ≠ b9 ∧ kb ≠ b3
theorem run_ne {a b : Nat} (h : a ≠ b) : ¬ (Bk.run a = Bk.run b) := fun e => h (by cases e; rfl)
theorem GI.set8 {H0 H : Heap} {b8 b9 b3 kb a : Nat} {c : Nat → Nat} {row : List V} (g : GI H0 b8 b9 b3 kb c H a row) (a' : Nat) : GI H0 b8 b9 b3 kb c (H.set (.run b8) (rdr kb a')) a' row := by
  obtain ⟨n1, n2, n3, n4, n5, n6⟩ := g.ne
  refine ⟨by rw [Heap.get_set, if_pos rfl], ?_, ?_, ⟨?_, by simpa using g.body.old⟩, g.t.setnew g.lo.1 _, g.lo, by simpa using g.hi, g.ne⟩
  · rw [Heap.get_set, if_neg (run_ne (Ne.symm n1))]; exact g.sp
  · rw [Heap.get_set, if_neg (run_ne (Ne.symm n2))]; exact g.an
  · rw [Heap.get_set, if_neg (run_ne n4)]; exact g.body.own
theorem GI.set9 {H0 H : Heap} {b8 b9 b3 kb a : Nat} {c : Nat → Nat} {row : List V} (g : GI H0 b8 b9 b3 kb c H a row) (row' : List V) : GI H0 b8 b9 b3 kb c (H.set (.run b9) (.rows false 23 [row'])) a row' := by
  obtain ⟨n1, n2, n3, n4, n5, n6⟩ := g.ne
  refine ⟨?_, by rw [Heap.get_set, if_pos rfl], ?_, ⟨?_, by simpa using g.body.old⟩, g.t.setnew g.lo.2.1 _, g.lo, by simpa using g.hi, g.ne⟩
  · rw [Heap.get_set, if_neg (run_ne n1)]; exact g.rd
  · rw [Heap.get_set, if_neg (run_ne (Ne.symm n3))]; exact g.an
  · rw [Heap.get_set, if_neg (run_ne n5)]; exact g.body.own
theorem GI.on {H0 H H' : Heap} {b8 b9 b3 kb a : Nat} {c : Nat → Nat} {row : List V} (g : GI H0 b8 b9 b3 kb c H a row) (t : Turns Z H H') : GI H0 b8 b9 b3 kb c H' a row :=
  ⟨(t.same (.run b8) g.hi.1 id).trans g.rd, (t.same (.run b9) g.hi.2.1 id).trans g.sp, (t.same (.run b3) g.hi.2.2 id).trans g.an, g.body.turns t, g.t.trans t, g.lo, ⟨Nat.lt_of_lt_of_le g.hi.1 t.next, Nat.lt_of_lt_of_le g.hi.2.1 t.next, Nat.lt_of_lt_of_le g.hi.2.2 t.next⟩, g.ne⟩
theorem GI.on9 {H0 H H' : Heap} {b8 b9 b3 kb a : Nat} {c : Nat → Nat} {row row' : List V} (g : GI H0 b8 b9 b3 kb c H a row) (t : Turns (fun c => c = .run b9) H H') (h : H'.get (.run b9) = some (.rows false 23 [row'])) : GI H0 b8 b9 b3 kb c H' a row' := by
  obtain ⟨n1, n2, n3, n4, n5, n6⟩ := g.ne
  refine ⟨(t.same (.run b8) g.hi.1 (run_ne n1)).trans g.rd, h, (t.same (.run b3) g.hi.2.2 (run_ne (Ne.symm n3))).trans g.an, ⟨(t.same (.run kb) g.body.old (run_ne n5)).trans g.body.own, Nat.lt_of_lt_of_le g.body.old t.next⟩, ?_, g.lo, ⟨Nat.lt_of_lt_of_le g.hi.1 t.next, Nat.lt_of_lt_of_le g.hi.2.1 t.next, Nat.lt_of_lt_of_le g.hi.2.2 t.next⟩, g.ne⟩
  exact g.t.later t (fun c ho e => by subst e; exact absurd ho (Heap.not_old g.lo.2.1))
theorem GI.take {H0 H : Heap} {b8 b9 b3 kb a : Nat} {c : Nat → Nat} {row : List V} (g : GI H0 b8 b9 b3 kb c H a row) (hc : ∀ i, c i < 256) {sz : Nat} (hs : 1 ≤ sz ∧ sz ≤ 8) (ha : a + sz ≤ 44) {lf : Nat} (hlf : 60 < lf) (n : Nat) :
    ∃ H', callS Try.prog S0 lf (n + 2) 74 [.ptr (some ⟨.run b8, 0⟩), .int .i64 (sz : Int)] H = some (.v (.int .u64 ((leN (fun i => c (a + i)) sz : Nat) : Int)), H') ∧ GI H0 b8 b9 b3 kb c H' (a + sz) row :=
  ⟨_, rtake_ok g.rd g.body hc hs ha hlf n, g.set8 (a + sz)⟩
theorem GI.put {H0 H : Heap} {b8 b9 b3 kb a : Nat} {c : Nat → Nat} {row : List V} (g : GI H0 b8 b9 b3 kb c H a row) {o : Nat} {vs row' : List V} (ho : o < 23) (hp : put row o vs = some row') :
    ∃ H', storeAt H ⟨.run b9, o⟩ vs = some H' ∧ GI H0 b8 b9 b3 kb c H' a row' := by
  refine ⟨_, ?_, g.set9 row'⟩
  have := storeAt_eq g.sp (o := o) (vs := vs) (r := row) (r' := row') (by rw [Nat.div_eq_of_lt ho]; rfl) (by rw [Nat.mod_eq_of_lt ho]; exact hp)
  rw [Nat.div_eq_of_lt ho] at this
  exact this
end Go.Proofs.Ytabebpemfinejaa.draft

set_option linter.unusedVariables false
set_option linter.unusedSimpArgs false
set_option maxRecDepth 10000
namespace Go.Proofs.Ytabebpemfinejaa.draft
open Go.Am
theorem up_lt' {c i : Nat} (hc : c < 256) : up c i < 2 ^ (8 * (i + 1)) := by
  unfold up
  have : 2 ^ (8 * (i + 1)) = 256 * 2 ^ (8 * i) := by rw [show 8 * (i + 1) = 8 + 8 * i by omega, Nat.pow_add]
  rw [this]
  exact Nat.mul_lt_mul_of_pos_right hc (Nat.pow_pos (by decide))
theorem leN_lt' {c : Nat → Nat} (hc : ∀ i, c i < 256) : ∀ n, leN c n < 2 ^ (8 * n)
  | 0 => by show 0 < _; exact Nat.pow_pos (by decide)
  | n + 1 => Nat.or_lt_two_pow (Nat.lt_of_lt_of_le (leN_lt' hc n) (Nat.pow_le_pow_right (by decide) (by omega))) (up_lt' (hc n))
theorem fld_1 (B a : Nat) : fld B a 1 < 256 := leN_lt' (fun i => bc_lt B (a + i)) 1
theorem fld_2 (B a : Nat) : fld B a 2 < 65536 := leN_lt' (fun i => bc_lt B (a + i)) 2
theorem set_c {S : List Nat} (hS : S.length = 16) (id me m s r c c' : Int) (g : Bool) : (scells id me m s r S c g).set 21 (.int .i64 c') = scells id me m s r S c' g := by
  match S, hS with
  | [_, _, _, _, _, _, _, _, _, _, _, _, _, _, _, _], _ => rfl
theorem set_g {S : List Nat} (hS : S.length = 16) (id me m s r c : Int) (g g' : Bool) : (scells id me m s r S c g).set 22 (.bool g') = scells id me m s r S c g' := by
  match S, hS with
  | [_, _, _, _, _, _, _, _, _, _, _, _, _, _, _, _], _ => rfl
theorem put_c {S : List Nat} (hS : S.length = 16) (id me m s r c c' : Int) (g : Bool) : put (scells id me m s r S c g) 21 [.int .i64 c'] = some (scells id me m s r S c' g) := by
  rw [put_one (s_thin id me m s r S c g) (by rw [s_len hS]; omega) rfl, set_c hS]
theorem put_g {S : List Nat} (hS : S.length = 16) (id me m s r c : Int) (g g' : Bool) : put (scells id me m s r S c g) 22 [.bool g'] = some (scells id me m s r S c g') := by
  rw [put_one (s_thin id me m s r S c g) (by rw [s_len hS]; omega) rfl, set_g hS]
theorem laid_s {S : List Nat} (hS : S.length = 16) (id me m s r c : Int) (g : Bool) : laid (scells id me m s r (List.replicate 16 0) c g) 5 S = scells id me m s r S c g := by
  match S, hS with
  | [_, _, _, _, _, _, _, _, _, _, _, _, _, _, _, _], _ => simp [laid, scells, rcells, sts, List.replicate]
theorem put_s {S : List Nat} (hS : S.length = 16) (id me m s r c : Int) (g : Bool) : put zrow 0 (scells id me m s r S c g) = some (scells id me m s r S c g) := by
  match S, hS with
  | [_, _, _, _, _, _, _, _, _, _, _, _, _, _, _, _], _ => rfl
theorem GI.ans {H0 H : Heap} {b8 b9 b3 kb a : Nat} {c : Nat → Nat} {row : List V} (G : GI H0 b8 b9 b3 kb c H a row) {row' : List V} (hp : Go.Am.put zrow 0 row' = some row') (hl : row'.length = 23) (ht : Thin row') :
    ∃ H', storeAt H ⟨.run b3, 0⟩ row' = some H' ∧ loadAt H' ⟨.run b3, 0⟩ 23 = some row' ∧ Turns Z H0 H' := by
  refine ⟨_, storeAt_eq G.an (r := zrow) (r' := row') rfl hp, ?_, G.t.setnew G.lo.2.2 _⟩
  rw [loadAt_eq (b := .run b3) (r := row') (by rw [Heap.get_set, if_pos rfl]) rfl, cut_thin ht (by omega)]
  simp [← hl]
theorem put_z : put zrow 0 zrow = some zrow := rfl
theorem width_z : width zrow = 23 := rfl
theorem sgf_ok (H : Heap) (B : Nat) {lf : Nat} (hlf : 60 < lf) (n : Nat) : ret (callS Try.prog S0 lf (n + 5) 66 [.blk B] H) fun v H' => Turns Z H H' ∧
    ((getE B ≠ 0 ∧ v = .tuple [.int .u64 0, .agg zrow, .int .i64 (getE B)]) ∨ (getE B = 0 ∧ v = .tuple [.int .u64 ((sealN B : Nat) : Int), gSup B, .int .i64 0])) := by
  have t1 := Turns.add Z H (.rows false 64 [[.blk B]])
  have hg1 : (H.add (.rows false 64 [[.blk B]])).get (.run H.next) = some (.rows false 64 [[.blk B]]) := by rw [Heap.get_add, if_pos rfl]
  have t2 := t1.addm (.rows false 23 [zrow])
  have hg2 : ((H.add (.rows false 64 [[.blk B]])).add (.rows false 23 [zrow])).get (.run H.next) = some (.rows false 64 [[.blk B]]) := by
    rw [Heap.get_add, if_neg (run_ne (by simp)), hg1]
  have hg3 : ((H.add (.rows false 64 [[.blk B]])).add (.rows false 23 [zrow])).get (.run (H.next + 1)) = some (.rows false 23 [zrow]) := by
    rw [Heap.get_add, if_pos (by simp)]
  have hn2 : ((H.add (.rows false 64 [[.blk B]])).add (.rows false 23 [zrow])).next = H.next + 2 := by simp
  have hzr : zrow = [.int .u64 0, .int .i64 0, .int .i64 0, .int .i64 0, .int .i64 0, .int .u8 0, .int .u8 0, .int .u8 0, .int .u8 0, .int .u8 0, .int .u8 0, .int .u8 0, .int .u8 0, .int .u8 0, .int .u8 0, .int .u8 0, .int .u8 0, .int .u8 0, .int .u8 0, .int .u8 0, .int .u8 0, .int .i64 0, .bool false] := rfl
  generalize hH2 : (H.add (.rows false 64 [[.blk B]])).add (.rows false 23 [zrow]) = H2 at *
  have l1 : loadAt H2 ⟨.run H.next, 0⟩ 64 = some [.blk B] := by rw [loadAt_eq hg2 rfl]; exact Dp _ _
  obtain ⟨v, H3, e1, t3, hv⟩ := sget_ok H2 B hlf n
  have hg3' : H3.get (.run (H.next + 1)) = some (.rows false 23 [zrow]) := (t3.same (.run (H.next + 1)) (by show _ < _; omega) id).trans hg3
  have hn3 : H.next + 2 ≤ H3.next := by rw [← hn2]; exact t3.next
  refine ret_call rfl c66_eq ?_
  rw [hzr] at hH2
  rcases hv with ⟨hE, rfl⟩ | ⟨hE, k, rfl, hb, hk⟩
  · have b0 : (sealE B == 0) = false := by simpa using hE
    have st : storeAt H3 ⟨.run (H.next + 1), 0⟩ zrow = some (H3.set (.run (H.next + 1)) (.rows false 23 [zrow])) := storeAt_eq hg3' (r := zrow) (r' := zrow) rfl put_z
    have lz : loadAt (H3.set (.run (H.next + 1)) (.rows false 23 [zrow])) ⟨.run (H.next + 1), 0⟩ 23 = some zrow := by
      rw [loadAt_eq (b := .run (H.next + 1)) (r := zrow) (by rw [Heap.get_set, if_pos rfl]) rfl]; rfl
    have hw := width_z
    have hge : getE B = sealE B := by unfold getE; rw [if_pos hE]
    rw [hge]
    generalize hH4 : H3.set (.run (H.next + 1)) (.rows false 23 [zrow]) = H4 at *
    rw [hzr] at st lz hw ⊢
    simp only [c66, hH2, l1, e1, b0, st, lz, hw, sy, tup, ↓reduceIte, Nat.reduceEqDiff, Nat.reduceAdd, Nat.reduceSub, Nat.reduceMul, Nat.reduceDiv, Nat.reduceMod, Nat.reduceLeDiff, Int.reduceBEq, reduceCtorEq]
    refine ⟨trivial, .inr trivial, _, rfl, ?_, .inl ⟨hE, rfl⟩⟩
    rw [← hH4]
    exact (t2.trans t3).setnew (by omega) _
  · have hcB : ∀ i, bc B i < 256 := bc_lt B
    have hb : BodyAt H3 k (bc B) 44 := hb
    obtain ⟨H4, hH4⟩ : ∃ H4, H3.add (.rows false 2 [[.slice (some ⟨.run k, 0⟩) 44 44 1, .int .i64 0]]) = H4 := ⟨_, rfl⟩
    have g4 : H4.get (.run H3.next) = some (rdr k 0) := by rw [← hH4, Heap.get_add, if_pos rfl]; rfl
    have t4 : Turns Z H3 H4 := by rw [← hH4]; exact Turns.add Z H3 _
    have n4 : H4.next = H3.next + 1 := by rw [← hH4]; simp
    have e2 : callS Try.prog S0 lf (n + 4) 74 [.ptr (some ⟨.run H3.next, 0⟩), .int .i64 8] H4 = some (.v (.int .u64 ((fld B 0 8 : Nat) : Int)), H4.set (.run H3.next) (rdr k 8)) := rtake_ok g4 (hb.turns t4) hcB (a := 0) (sz := 8) (by omega) (by omega) hlf (n + 2)
    obtain ⟨H5, hH5⟩ : ∃ H5, H4.set (.run H3.next) (rdr k 8) = H5 := ⟨_, rfl⟩
    rw [hH5] at e2
    have g5 : H5.get (.run H3.next) = some (rdr k 8) := by rw [← hH5, Heap.get_set, if_pos rfl]
    have n5 : H5.next = H3.next + 1 := by rw [← hH5]; simpa using n4
    have bk := hb.old
    have b5 : BodyAt H5 k (bc B) 44 := ⟨by rw [← hH5, Heap.get_set, if_neg (run_ne (by omega))]; exact (hb.turns t4).own, by omega⟩
    have a5 : H5.get (.run (H.next + 1)) = some (.rows false 23 [zrow]) := by
      rw [← hH5, Heap.get_set, if_neg (run_ne (by omega))]
      exact (t4.same (.run (H.next + 1)) (by show _ < _; omega) id).trans hg3'
    have T5 : Turns Z H H5 := by rw [← hH5]; exact ((t2.trans t3).trans t4).setnew (by omega) _
    obtain ⟨H6, hH6⟩ : ∃ H6, H5.add (.rows false 23 [zrow]) = H6 := ⟨_, rfl⟩
    have t6 : Turns Z H5 H6 := by rw [← hH6]; exact Turns.add Z H5 _
    have G6 : GI H H3.next H5.next (H.next + 1) k (bc B) H6 8 zrow := by
      refine ⟨(t6.same (.run H3.next) (by show _ < _; omega) id).trans g5, by rw [← hH6, Heap.get_add, if_pos rfl], (t6.same (.run (H.next + 1)) (by show _ < _; omega) id).trans a5, b5.turns t6, T5.trans t6, ⟨by omega, by omega, by omega⟩, ?_, ⟨by omega, by omega, by omega, by omega, by omega, by omega⟩⟩
      have : H6.next = H5.next + 1 := by rw [← hH6]; simp
      exact ⟨by omega, by omega, by omega⟩
    obtain ⟨H7, st7, G7⟩ := G6.put (o := 0) (vs := scells (fld B 0 8) 0 0 0 0 (List.replicate 16 0) 0 false) (row' := scells (fld B 0 8) 0 0 0 0 (List.replicate 16 0) 0 false) (by omega) rfl
    obtain ⟨H8, e8, G8⟩ := G7.take hcB (sz := 1) (by omega) (by omega) hlf (n + 2)
    have e8 : callS Try.prog S0 lf (n + 4) 74 [.ptr (some ⟨.run H3.next, 0⟩), .int .i64 1] H7 = some (.v (.int .u64 ((fld B 8 1 : Nat) : Int)), H8) := e8
    have G8 : GI H H3.next H5.next (H.next + 1) k (bc B) H8 9 _ := G8
    obtain ⟨H9, e9, G9⟩ := G8.take hcB (sz := 2) (by omega) (by omega) hlf (n + 2)
    have e9 : callS Try.prog S0 lf (n + 4) 74 [.ptr (some ⟨.run H3.next, 0⟩), .int .i64 2] H8 = some (.v (.int .u64 ((fld B 9 2 : Nat) : Int)), H9) := e9
    have G9 : GI H H3.next H5.next (H.next + 1) k (bc B) H9 11 _ := G9
    obtain ⟨H10, e10, G10⟩ := G9.take hcB (sz := 2) (by omega) (by omega) hlf (n + 2)
    have e10 : callS Try.prog S0 lf (n + 4) 74 [.ptr (some ⟨.run H3.next, 0⟩), .int .i64 2] H9 = some (.v (.int .u64 ((fld B 11 2 : Nat) : Int)), H10) := e10
    have G10 : GI H H3.next H5.next (H.next + 1) k (bc B) H10 13 _ := G10
    obtain ⟨H11, st11, G11⟩ := G10.put (o := 2) (vs := [.int .i64 (fld B 8 1), .int .i64 (fld B 9 2), .int .i64 (fld B 11 2)]) (row' := scells (fld B 0 8) 0 (fld B 8 1) (fld B 9 2) (fld B 11 2) (List.replicate 16 0) 0 false) (by omega) rfl
    obtain ⟨H12, e12, G12⟩ := G11.take hcB (sz := 1) (by omega) (by omega) hlf (n + 2)
    have e12 : callS Try.prog S0 lf (n + 4) 74 [.ptr (some ⟨.run H3.next, 0⟩), .int .i64 1] H11 = some (.v (.int .u64 ((fld B 13 1 : Nat) : Int)), H12) := e12
    have G12 : GI H H3.next H5.next (H.next + 1) k (bc B) H12 14 _ := G12
    obtain ⟨H13, st13, G13⟩ := G12.put (o := 1) (vs := [.int .i64 (fld B 13 1)]) (row' := scells (fld B 0 8) (fld B 13 1) (fld B 8 1) (fld B 9 2) (fld B 11 2) (List.replicate 16 0) 0 false) (by omega) rfl
    have r13 : loadAt H13 ⟨.run H3.next, 0⟩ 1 = some [.slice (some ⟨.run k, 0⟩) 44 44 1] := by rw [loadAt_eq G13.rd rfl]; rfl
    have a13 : loadAt H13 ⟨.run H3.next, 1⟩ 1 = some [.int .i64 14] := by rw [loadAt_eq G13.rd rfl]; rfl
    obtain ⟨vu, H14, e14, t14, ku, rfl, gu, ou⟩ := unbits_ok (H := H13) (p := ⟨.run k, 14⟩) (len := 30) (cap := 30) (loose := 1) (c := fun i => bc B (14 + i)) (by omega) (by omega) G13.body.old (fun i => hcB _) (fun t i hi => (G13.body.turns t).load (i := 14 + i) (by omega)) lf (n + 2) (by omega)
    change callS Try.prog S0 lf (n + 4) 75 _ _ = _ at e14
    have G14 := G13.on t14
    have hS16 : (gSt B).length = 16 := stl_len _ _ _
    obtain ⟨H15, e15, g15, t15, n15⟩ := copy_states gu G14.sp rfl (s_thin _ _ _ _ _ _ _ _)
    have G15 : GI H H3.next H5.next (H.next + 1) k (bc B) H15 14 (scells (fld B 0 8) (fld B 13 1) (fld B 8 1) (fld B 9 2) (fld B 11 2) (gSt B) 0 false) := G14.on9 t15 (by rw [g15]; exact congrArg (fun r => some (Am.Obj.rows false 23 [r])) (laid_s hS16 _ _ _ _ _ _ _))
    have a15 : loadAt H15 ⟨.run H3.next, 1⟩ 1 = some [.int .i64 14] := by rw [loadAt_eq G15.rd rfl]; rfl
    have w1 : IntKind.i64.wrap (((16 : Nat) : Int) * 2) = 32 := by kernel_rfl
    have w2 : arith .quo (.int .i64 32) (.int .i64 8) = some (.int .i64 4) := by kernel_rfl
    have w3 : IntKind.i64.wrap (14 + 4) = 18 := by kernel_rfl
    have st16 : storeAt H15 ⟨.run H3.next, 1⟩ [.int .i64 18] = some (H15.set (.run H3.next) (rdr k 18)) := storeAt_eq G15.rd (r := [.slice (some ⟨.run k, 0⟩) 44 44 1, .int .i64 14]) (r' := [.slice (some ⟨.run k, 0⟩) 44 44 1, .int .i64 18]) rfl rfl
    have G16 := G15.set8 18
    obtain ⟨H16, hH16⟩ : ∃ H16, H15.set (.run H3.next) (rdr k 18) = H16 := ⟨_, rfl⟩
    rw [hH16] at st16 G16
    obtain ⟨H17, e17, G17⟩ := G16.take hcB (sz := 2) (by omega) (by omega) hlf (n + 2)
    have e17 : callS Try.prog S0 lf (n + 4) 74 [.ptr (some ⟨.run H3.next, 0⟩), .int .i64 2] H16 = some (.v (.int .u64 ((fld B 18 2 : Nat) : Int)), H17) := e17
    have G17 : GI H H3.next H5.next (H.next + 1) k (bc B) H17 20 _ := G17
    obtain ⟨H18, st18, G18⟩ := G17.put (o := 21) (vs := [.int .i64 (fld B 18 2)]) (row' := scells (fld B 0 8) (fld B 13 1) (fld B 8 1) (fld B 9 2) (fld B 11 2) (gSt B) (fld B 18 2) false) (by omega) (put_c hS16 _ _ _ _ _ _ _ _)
    obtain ⟨H19, e19, G19⟩ := G18.take hcB (sz := 1) (by omega) (by omega) hlf (n + 2)
    have e19 : callS Try.prog S0 lf (n + 4) 74 [.ptr (some ⟨.run H3.next, 0⟩), .int .i64 1] H18 = some (.v (.int .u64 ((fld B 20 1 : Nat) : Int)), H19) := e19
    have G19 : GI H H3.next H5.next (H.next + 1) k (bc B) H19 21 _ := G19
    obtain ⟨H20, st20, G20⟩ := G19.put (o := 22) (vs := [.bool (((fld B 20 1 : Nat) : Int) == 1)]) (row' := scells (fld B 0 8) (fld B 13 1) (fld B 8 1) (fld B 9 2) (fld B 11 2) (gSt B) (fld B 18 2) (((fld B 20 1 : Nat) : Int) == 1)) (by omega) (put_g hS16 _ _ _ _ _ _ _ _)
    have r20 : loadAt H20 ⟨.run H3.next, 0⟩ 1 = some [.slice (some ⟨.run k, 0⟩) 44 44 1] := by rw [loadAt_eq G20.rd rfl]; rfl
    have a20 : loadAt H20 ⟨.run H3.next, 1⟩ 1 = some [.int .i64 21] := by rw [loadAt_eq G20.rd rfl]; rfl
    obtain ⟨vz, H21, e21, rfl, zl, rfl, hzl⟩ := contains_ok (H := H20) (p := ⟨.run k, 21⟩) (len := 23) (cap := 23) (loose := 1) (c := fun i => bc B (21 + i)) (by omega) (fun i hi => G20.body.load (i := 21 + i) (by omega)) lf (n + 1) (by omega)
    change callS Try.prog S0 lf (n + 4) 76 _ _ = _ at e21
    have e22 : callS Try.prog S0 lf (n + 4) 55 [.int .u64 ((sealN B : Nat) : Int)] H21 = _ := event_ok H21 _ lf (n + 3)
    have S20 : SupAt H21 (.run H5.next) (fld B 0 8) (fld B 13 1) (fld B 8 1) (fld B 9 2) (fld B 11 2) (gSt B) (fld B 18 2) (((fld B 20 1 : Nat) : Int) == 1) := ⟨G20.sp, hS16⟩
    have ls := sup_all S20
    obtain ⟨vm, H23, e23, ⟨zm, rfl, hzm⟩, t23⟩ := smay_ok H21 (id := fld B 0 8) (me := fld B 13 1) (m := fld B 8 1) (s := fld B 9 2) (r := fld B 11 2) (c := fld B 18 2) (g := ((fld B 20 1 : Nat) : Int) == 1) hS16 lf n (by omega)
    unfold sup at e23
    have c1 : IntKind.i64.wrap ((fld B 8 1 : Nat) : Int) = ((fld B 8 1 : Nat) : Int) := wrap_nat (by have := fld_1 B 8; omega)
    have c2 : IntKind.i64.wrap ((fld B 9 2 : Nat) : Int) = ((fld B 9 2 : Nat) : Int) := wrap_nat (by have := fld_2 B 9; omega)
    have c3 : IntKind.i64.wrap ((fld B 11 2 : Nat) : Int) = ((fld B 11 2 : Nat) : Int) := wrap_nat (by have := fld_2 B 11; omega)
    have c4 : IntKind.i64.wrap ((fld B 13 1 : Nat) : Int) = ((fld B 13 1 : Nat) : Int) := wrap_nat (by have := fld_1 B 13; omega)
    have c5 : IntKind.i64.wrap ((fld B 18 2 : Nat) : Int) = ((fld B 18 2 : Nat) : Int) := wrap_nat (by have := fld_2 B 18; omega)
    have bb1 : bounds 44 44 (some (.int .i64 14)) none none = some (14, 44, 44) := rfl
    have bb2 : bounds 44 44 (some (.int .i64 21)) none none = some (21, 44, 44) := rfl
    have bb3 : bounds 16 16 none none none = some (0, 16, 16) := rfl
    have st7 : storeAt H6 ⟨.run H5.next, 0⟩ [.int .u64 ((fld B 0 8 : Nat) : Int), .int .i64 0, .int .i64 0, .int .i64 0, .int .i64 0, .int .u8 0, .int .u8 0, .int .u8 0, .int .u8 0, .int .u8 0, .int .u8 0, .int .u8 0, .int .u8 0, .int .u8 0, .int .u8 0, .int .u8 0, .int .u8 0, .int .u8 0, .int .u8 0, .int .u8 0, .int .u8 0, .int .i64 0, .bool false] = some H7 := st7
    rw [hzr] at hH6
    simp only [c66, hH2, l1, e1, hH4, e2, hH6, st7, e8, e9, e10, c1, c2, c3, st11, e12, c4, st13, r13, a13, bb1, e14, sy, tup, ↓reduceIte, Nat.reduceEqDiff, Nat.reduceAdd, Nat.reduceSub, Nat.reduceMul, Nat.reduceDiv, Nat.reduceMod, Nat.reduceLeDiff, Int.reduceBEq, reduceCtorEq]
    rw [endD_ok (by kernel_rfl) (by kernel_rfl)]
    simp only [r13, a13, bb1, bb2, bb3, e14, e15, a15, w1, w2, w3, st16, e17, c5, st18, e19, st20, r20, a20, e21, e22, arith_mul, sy, tup, ↓reduceIte, Nat.reduceEqDiff, Nat.reduceAdd, Nat.reduceSub, Nat.reduceMul, Nat.reduceDiv, Nat.reduceMod, Nat.reduceLeDiff, Int.reduceBEq, reduceCtorEq]
    rw [endD_ok (by kernel_rfl) (by kernel_rfl)]
    have hgY : isSup B → getE B = 0 := fun h => by unfold getE; rw [if_neg (by simpa using hE), if_pos h]
    have hgN : ¬ isSup B → getE B = 5 := fun h => by unfold getE; rw [if_neg (by simpa using hE), if_neg h]
    have G23 := G20.on t23
    have ls23 : loadAt H23 ⟨.run H5.next, 0⟩ 23 = _ := sup_all ⟨G23.sp, hS16⟩
    obtain ⟨F1, sf1, lf1, tf1⟩ := G20.ans (row' := zrow) put_z rfl (s_thin 0 0 0 0 0 (List.replicate 16 0) 0 false)
    obtain ⟨F2, sf2, lf2, tf2⟩ := G23.ans (row' := zrow) put_z rfl (s_thin 0 0 0 0 0 (List.replicate 16 0) 0 false)
    obtain ⟨F3, sf3, lf3, tf3⟩ := G23.ans (put_s hS16 (fld B 0 8) (fld B 13 1) (fld B 8 1) (fld B 9 2) (fld B 11 2) (fld B 18 2) (((fld B 20 1 : Nat) : Int) == 1)) (s_len hS16 _ _ _ _ _ _ _) (s_thin _ _ _ _ _ _ _ _)
    have hsw := s_width hS16 (fld B 0 8) (fld B 13 1) (fld B 8 1) (fld B 9 2) (fld B 11 2) (fld B 18 2) (((fld B 20 1 : Nat) : Int) == 1)
    have hwz := width_z
    rw [hzr] at sf1 lf1 sf2 lf2 hwz ⊢
    cases hev : evt (sealN B) with
    | false =>
      have hno : ¬ isSup B := fun h => by rw [h.1] at hev; cases hev
      rw [hev] at e22
      simp only [r20, a20, bb2, e21, e22, sf1, lf1, hwz, sy, tup, ↓reduceIte, Nat.reduceEqDiff, Nat.reduceAdd, Nat.reduceSub, Nat.reduceMul, Nat.reduceDiv, Nat.reduceMod, Nat.reduceLeDiff, Int.reduceBEq, reduceCtorEq]
      exact ⟨trivial, .inr trivial, _, rfl, tf1, .inl ⟨by rw [hgN hno]; decide, by rw [hgN hno]⟩⟩
    | true =>
      rw [hev] at e22
      cases hz : zm with
      | false =>
        subst hz
        have hno : ¬ isSup B := fun h => by have := hzm.2 h.2.1; cases this
        simp only [r20, a20, bb2, e21, e22, ls, e23, sf2, lf2, hwz, sy, tup, ↓reduceIte, Nat.reduceEqDiff, Nat.reduceAdd, Nat.reduceSub, Nat.reduceMul, Nat.reduceDiv, Nat.reduceMod, Nat.reduceLeDiff, Int.reduceBEq, reduceCtorEq]
        exact ⟨trivial, .inr trivial, _, rfl, tf2, .inl ⟨by rw [hgN hno]; decide, by rw [hgN hno]⟩⟩
      | true =>
        subst hz
        by_cases hg1 : 1 < fld B 20 1
        · have hno : ¬ isSup B := fun h => by have := h.2.2.1; omega
          have hg1' : (1 : Int) < ((fld B 20 1 : Nat) : Int) := by omega
          simp only [r20, a20, bb2, e21, e22, ls, e23, sf2, lf2, hwz, hg1', sy, tup, ↓reduceIte, Nat.reduceEqDiff, Nat.reduceAdd, Nat.reduceSub, Nat.reduceMul, Nat.reduceDiv, Nat.reduceMod, Nat.reduceLeDiff, Int.reduceBEq, reduceCtorEq]
          exact ⟨trivial, .inr trivial, _, rfl, tf2, .inl ⟨by rw [hgN hno]; decide, by rw [hgN hno]⟩⟩
        · have hg1' : ¬ (1 : Int) < ((fld B 20 1 : Nat) : Int) := by omega
          cases hl : zl with
          | true =>
            subst hl
            have hno : ¬ isSup B := fun h => by have := hzl.2 h.2.2.2; cases this
            simp only [r20, a20, bb2, e21, e22, ls, e23, sf2, lf2, hwz, hg1', sy, tup, ↓reduceIte, Nat.reduceEqDiff, Nat.reduceAdd, Nat.reduceSub, Nat.reduceMul, Nat.reduceDiv, Nat.reduceMod, Nat.reduceLeDiff, Int.reduceBEq, reduceCtorEq]
            exact ⟨trivial, .inr trivial, _, rfl, tf2, .inl ⟨by rw [hgN hno]; decide, by rw [hgN hno]⟩⟩
          | false =>
            subst hl
            have hyes : isSup B := ⟨hev, hzm.1 rfl, by omega, hzl.1 rfl⟩
            simp only [r20, a20, bb2, e21, e22, ls, e23, hg1', ls23, sf3, lf3, hsw, sy, tup, ↓reduceIte, Nat.reduceEqDiff, Nat.reduceAdd, Nat.reduceSub, Nat.reduceMul, Nat.reduceDiv, Nat.reduceMod, Nat.reduceLeDiff, Int.reduceBEq, reduceCtorEq]
            rw [endD_ok (by kernel_rfl) (by kernel_rfl)]
            simp only [ls23, sf3, lf3, hsw, sy, tup, ↓reduceIte, Nat.reduceEqDiff, Nat.reduceAdd, Nat.reduceSub, Nat.reduceMul, Nat.reduceDiv, Nat.reduceMod, Nat.reduceLeDiff, Int.reduceBEq, reduceCtorEq]
            exact ⟨trivial, .inr trivial, _, rfl, tf3, .inr ⟨hgY hyes, rfl⟩⟩
end Go.Proofs.Ytabebpemfinejaa.draft

set_option linter.unusedVariables false
set_option linter.unusedSimpArgs false
set_option maxRecDepth 10000
namespace Go.Proofs.Ytabebpemfinejaa.draft
open Go.Am
noncomputable def c65 : CFn := ⟨[.tmp (pp 4), .tmp (pp 5)],
 .seq (.reg [
 qo 2 (.m (boxF 64 (tt 0))) [pp 0],
 qo 3 (.m (boxF 64 (tt 1))) [pp 1],
 qo 4 (.p (S.get (ii 0))) [],
 qo 5 (.p (S.get (.c (.bool false)))) []]) (
 .seq (.reg [
 qo 13 (.r (loadF (tt 2) 64 .bk)) [pp 2],
 qo 14 (.c (callF (ff 66) [(tt 13)])) [pp 13],
 mv 12 14,
 qo 15 (.p (extF (tt 12) 0)) [pp 12],
 qo 16 (.p (extF (tt 12) 1)) [pp 12],
 qo 17 (.p (extF (tt 12) 2)) [pp 12],
 qo 7 (.m (allocF 23 [.int .u64 0, .int .i64 0, .int .i64 0, .int .i64 0, .int .i64 0, .int .u8 0, .int .u8 0, .int .u8 0, .int .u8 0, .int .u8 0, .int .u8 0, .int .u8 0, .int .u8 0, .int .u8 0, .int .u8 0, .int .u8 0, .int .u8 0, .int .u8 0, .int .u8 0, .int .u8 0, .int .u8 0, .int .i64 0, .bool false])) [],
 mv 6 15,
 qn (.a (storeF (tt 7) (tt 16) 23)) [pp 7, pp 16],
 mv 8 17]) (
 .seq (.reg [
 qo 19 (.r (loadF (tt 3) 64 .bk)) [pp 3],
 qo 20 (.c (callF (ff 66) [(tt 19)])) [pp 19],
 mv 18 20,
 qo 21 (.p (extF (tt 18) 0)) [pp 18],
 qo 22 (.p (extF (tt 18) 1)) [pp 18],
 qo 23 (.p (extF (tt 18) 2)) [pp 18],
 qo 10 (.m (allocF 23 [.int .u64 0, .int .i64 0, .int .i64 0, .int .i64 0, .int .i64 0, .int .u8 0, .int .u8 0, .int .u8 0, .int .u8 0, .int .u8 0, .int .u8 0, .int .u8 0, .int .u8 0, .int .u8 0, .int .u8 0, .int .u8 0, .int .u8 0, .int .u8 0, .int .u8 0, .int .u8 0, .int .u8 0, .int .i64 0, .bool false])) [],
 mv 9 21,
 qn (.a (storeF (tt 10) (tt 22) 23)) [pp 10, pp 22],
 mv 11 23]) (
 .seq (.block 0 (.seq (.reg [
 mv 25 8,
 qo 26 (.p (eqcF true false [.int .i64] (tt 25) (ii 0))) [pp 25],
 mv 27 26,
 mg 28 11 27 true,
 qg 29 (.p (eqcF true false [.int .i64] (tt 28) (ii 0))) 27 true [pp 28],
 qo 30 (.p (pickF (tt 27) (tt 29) (.c (.bool false)))) [pp 27, pp 29],
 mv 24 30]) (
 .cond (tt 24) (.seq (.reg [
 qo 4 (.p (S.get (ii 0))) [],
 qo 5 (.p (S.get (.c (.bool true)))) []]) (
 .ret)) (.seq (.seq (.reg [
 mv 32 8,
 qo 33 (.p (eqcF true false [.int .i64] (tt 32) (ii 0))) [pp 32],
 mv 31 33]) (
 .cond (tt 31) (.skip) (.reg [
 mv 34 11,
 qo 35 (.p (eqcF false false [.int .i64] (tt 34) (ii 0))) [pp 34],
 mv 36 35,
 mg 37 9 36 true,
 mg 38 6 36 true,
 qg 39 (.p (arF .gtr (tt 37) (tt 38))) 36 true [pp 37, pp 38],
 qo 40 (.p (pickF (tt 36) (tt 39) (.c (.bool false)))) [pp 36, pp 39],
 mv 31 40]))) (
 .cond (tt 31) (.seq (.reg [
 qo 4 (.p (S.get (ii 1))) [],
 qo 5 (.p (S.get (.c (.bool false)))) []]) (
 .ret)) (.skip)))))) (
 .seq (.reg [
 qo 4 (.p (S.get (ii 0))) [],
 qo 5 (.p (S.get (.c (.bool false)))) []]) (
 .ret)))))⟩
theorem c65_eq : fnOf Try.prog 65 = some c65 := by kernel_rfl
noncomputable def c50 : CFn := ⟨[.tmp (pp 4), .cell (pp 5) 23 .ag, .tmp (pp 6)],
 .seq (.reg [
 qo 2 (.m (boxF 64 (tt 0))) [pp 0],
 qo 3 (.m (boxF 64 (tt 1))) [pp 1],
 qo 4 (.p (S.get (.c (.int .u64 0)))) [],
 qo 5 (.m (allocF 23 [.int .u64 0, .int .i64 0, .int .i64 0, .int .i64 0, .int .i64 0, .int .u8 0, .int .u8 0, .int .u8 0, .int .u8 0, .int .u8 0, .int .u8 0, .int .u8 0, .int .u8 0, .int .u8 0, .int .u8 0, .int .u8 0, .int .u8 0, .int .u8 0, .int .u8 0, .int .u8 0, .int .u8 0, .int .i64 0, .bool false])) [],
 qo 6 (.p (S.get (ii 0))) []]) (
 .seq (.reg [
 qo 10 (.r (loadF (tt 2) 64 .bk)) [pp 2],
 qo 11 (.r (loadF (tt 3) 64 .bk)) [pp 3],
 qo 12 (.c (callF (ff 65) [(tt 10), (tt 11)])) [pp 10, pp 11],
 mv 9 12,
 qo 13 (.p (extF (tt 9) 0)) [pp 9],
 qo 14 (.p (extF (tt 9) 1)) [pp 9],
 mv 7 13,
 mv 8 14]) (
 .seq (.seq (.reg [
 mv 15 8]) (
 .cond (tt 15) (.seq (.reg [
 qo 16 (.p (buildF [.int .u64 0, .int .i64 0, .int .i64 0, .int .i64 0, .int .i64 0, .int .u8 0, .int .u8 0, .int .u8 0, .int .u8 0, .int .u8 0, .int .u8 0, .int .u8 0, .int .u8 0, .int .u8 0, .int .u8 0, .int .u8 0, .int .u8 0, .int .u8 0, .int .u8 0, .int .u8 0, .int .u8 0, .int .i64 0, .bool false] .ag [])) [],
 qo 4 (.p (S.get (.c (.int .u64 0)))) [],
 qn (.a (storeF (tt 5) (tt 16) 23)) [pp 5, pp 16],
 qo 6 (.p (S.get (ii 7))) []]) (
 .ret)) (.skip))) (
 .seq (.reg [
 qo 17 (.r (loadF (tt 2) 64 .bk)) [pp 2],
 qo 18 (.r (loadF (tt 3) 64 .bk)) [pp 3],
 qo 19 (.p (buildF [.blk 0, .blk 0] .ag [(0, 64, (tt 17)), (64, 64, (tt 18))])) [pp 17, pp 18],
 mv 20 7,
 qo 21 (.p (idxAF (tt 19) (tt 20) 2 64 .bk)) [pp 19, pp 20],
 qo 22 (.c (callF (ff 66) [(tt 21)])) [pp 21],
 qo 23 (.p (extF (tt 22) 0)) [pp 22],
 qo 24 (.p (extF (tt 22) 1)) [pp 22],
 qo 25 (.p (extF (tt 22) 2)) [pp 22],
 mv 4 23,
 qn (.a (storeF (tt 5) (tt 24) 23)) [pp 5, pp 24],
 mv 6 25]) (
 .ret))))⟩
theorem c50_eq : fnOf Try.prog 50 = some c50 := by kernel_rfl
structure SRow (row : List V) : Prop where
  len : row.length = 23
  thin : Thin row
  put : Go.Am.put zrow 0 row = some row
theorem SRow.z : SRow zrow := ⟨rfl, s_thin 0 0 0 0 0 (List.replicate 16 0) 0 false, put_z⟩
theorem SRow.s {S : List Nat} (hS : S.length = 16) (id me m s r c : Int) (g : Bool) : SRow (scells id me m s r S c g) := ⟨s_len hS _ _ _ _ _ _ _, s_thin _ _ _ _ _ _ _ _, put_s hS _ _ _ _ _ _ _⟩
theorem SRow.width {row : List V} (h : SRow row) : width row = 23 := by rw [width_thin h.thin, h.len]
noncomputable def numOf (B : Nat) : Nat := if getE B = 0 then sealN B else 0
theorem gSt_len (B : Nat) : (gSt B).length = 16 := stl_len _ _ _
theorem sgr_ok (H : Heap) (B : Nat) {lf : Nat} (hlf : 60 < lf) (n : Nat) : ret (callS Try.prog S0 lf (n + 5) 66 [.blk B] H) fun v H' => Turns Z H H' ∧ ∃ row, v = .tuple [.int .u64 ((numOf B : Nat) : Int), .agg row, .int .i64 (getE B)] ∧ SRow row ∧ (getE B = 0 → V.agg row = gSup B) := by
  refine (sgf_ok H B hlf n).mono ?_
  rintro v H' ⟨t, ⟨hE, rfl⟩ | ⟨hE, rfl⟩⟩
  · exact ⟨t, zrow, by unfold numOf; rw [if_neg hE]; rfl, SRow.z, fun h => absurd h hE⟩
  · exact ⟨t, scells (fld B 0 8) (fld B 13 1) (fld B 8 1) (fld B 9 2) (fld B 11 2) (gSt B) (fld B 18 2) (((fld B 20 1 : Nat) : Int) == 1), by unfold numOf; rw [if_pos hE, hE]; rfl, SRow.s (gSt_len B) _ _ _ _ _ _ _, fun _ => rfl⟩
theorem SRow.new {row : List V} (h : SRow row) (H : Heap) : ∃ H', storeAt (H.add (.rows false 23 [zrow])) ⟨.run H.next, 0⟩ row = some H' ∧ H'.get (.run H.next) = some (.rows false 23 [row]) ∧ Turns Z H H' ∧ H'.next = H.next + 1 := by
  have hg : (H.add (.rows false 23 [zrow])).get (.run H.next) = some (.rows false 23 [zrow]) := by rw [Heap.get_add, if_pos rfl]
  exact ⟨_, storeAt_eq hg (r := zrow) (r' := row) rfl h.put, by rw [Heap.get_set, if_pos rfl]; rfl, (Turns.add Z H _).setnew (Nat.le_refl _) _, by simp⟩
noncomputable def newW (A B : Nat) : Option Nat :=
  if getE A ≠ 0 ∧ getE B ≠ 0 then none else if getE A ≠ 0 ∨ (getE B = 0 ∧ numOf A < numOf B) then some 1 else some 0
theorem newest_ok (H : Heap) (A B : Nat) {lf : Nat} (hlf : 60 < lf) (n : Nat) : ret (callS Try.prog S0 lf (n + 6) 65 [.blk A, .blk B] H) fun v H' => Turns Z H H' ∧
    ((newW A B = none ∧ v = .tuple [.int .i64 0, .bool true]) ∨ (newW A B = some 1 ∧ v = .tuple [.int .i64 1, .bool false]) ∨ (newW A B = some 0 ∧ v = .tuple [.int .i64 0, .bool false])) := by
  have t1 := Turns.add Z H (.rows false 64 [[.blk A]])
  have hg1 : (H.add (.rows false 64 [[.blk A]])).get (.run H.next) = some (.rows false 64 [[.blk A]]) := by rw [Heap.get_add, if_pos rfl]
  have t2 := t1.addm (.rows false 64 [[.blk B]])
  have hgA : ((H.add (.rows false 64 [[.blk A]])).add (.rows false 64 [[.blk B]])).get (.run H.next) = some (.rows false 64 [[.blk A]]) := by
    rw [Heap.get_add, if_neg (run_ne (by simp)), hg1]
  have hgB : ((H.add (.rows false 64 [[.blk A]])).add (.rows false 64 [[.blk B]])).get (.run (H.next + 1)) = some (.rows false 64 [[.blk B]]) := by
    rw [Heap.get_add, if_pos (by simp)]
  have hn : ((H.add (.rows false 64 [[.blk A]])).add (.rows false 64 [[.blk B]])).next = H.next + 2 := by simp
  generalize hH2 : (H.add (.rows false 64 [[.blk A]])).add (.rows false 64 [[.blk B]]) = H2 at *
  have lA : loadAt H2 ⟨.run H.next, 0⟩ 64 = some [.blk A] := by rw [loadAt_eq hgA rfl]; exact Dp _ _
  obtain ⟨v1, H3, e1, t3, r1, rfl, R1, _⟩ := sgr_ok H2 A hlf n
  obtain ⟨H4, s4, _, t4, _⟩ := R1.new H3
  have hgB4 : H4.get (.run (H.next + 1)) = some (.rows false 64 [[.blk B]]) := ((t3.trans t4).same (.run (H.next + 1)) (by show _ < _; omega) id).trans hgB
  have lB : loadAt H4 ⟨.run (H.next + 1), 0⟩ 64 = some [.blk B] := by rw [loadAt_eq hgB4 rfl]; exact Dp _ _
  obtain ⟨v2, H5, e2, t5, r2, rfl, R2, _⟩ := sgr_ok H4 B hlf n
  obtain ⟨H6, s6, _, t6, _⟩ := R2.new H5
  have tt : Turns Z H H6 := (((t2.trans t3).trans t4).trans t5).trans t6
  have w1 := R1.width
  have w2 := R2.width
  have hzr : zrow = [.int .u64 0, .int .i64 0, .int .i64 0, .int .i64 0, .int .i64 0, .int .u8 0, .int .u8 0, .int .u8 0, .int .u8 0, .int .u8 0, .int .u8 0, .int .u8 0, .int .u8 0, .int .u8 0, .int .u8 0, .int .u8 0, .int .u8 0, .int .u8 0, .int .u8 0, .int .u8 0, .int .u8 0, .int .i64 0, .bool false] := rfl
  obtain ⟨K4, hK4⟩ : ∃ K, H3.add (.rows false 23 [zrow]) = K := ⟨_, rfl⟩
  obtain ⟨K6, hK6⟩ : ∃ K, H5.add (.rows false 23 [zrow]) = K := ⟨_, rfl⟩
  rw [hK4] at s4
  rw [hK6] at s6
  rw [hzr] at hK4 hK6
  unfold newW
  generalize getE A = eA at *
  generalize getE B = eB at *
  generalize numOf A = nA at *
  generalize numOf B = nB at *
  refine ret_call rfl c65_eq ?_
  by_cases hA : eA = 0
  · have bA : (eA == 0) = true := by simpa using hA
    by_cases hB : eB = 0
    · have bB : (eB == 0) = true := by simpa using hB
      by_cases hlt : nA < nB
      · have hlt' : (nA : Int) < (nB : Int) := by omega
        simp only [c65, hH2, lA, e1, hK4, s4, w1, lB, e2, hK6, s6, w2, bA, bB, hlt', sy, tup, ↓reduceIte, Nat.reduceEqDiff, Nat.reduceAdd, Nat.reduceSub, Nat.reduceMul, Nat.reduceDiv, Nat.reduceMod, Nat.reduceLeDiff, Int.reduceBEq, reduceCtorEq]
        exact ⟨trivial, .inr trivial, _, rfl, tt, .inr (.inl ⟨by simp [hA, hB, hlt], rfl⟩)⟩
      · have hlt' : ¬ (nA : Int) < (nB : Int) := by omega
        simp only [c65, hH2, lA, e1, hK4, s4, w1, lB, e2, hK6, s6, w2, bA, bB, hlt', sy, tup, ↓reduceIte, Nat.reduceEqDiff, Nat.reduceAdd, Nat.reduceSub, Nat.reduceMul, Nat.reduceDiv, Nat.reduceMod, Nat.reduceLeDiff, Int.reduceBEq, reduceCtorEq]
        exact ⟨trivial, .inr trivial, _, rfl, tt, .inr (.inr ⟨by simp [hA, hB, hlt], rfl⟩)⟩
    · have bB : (eB == 0) = false := by simpa using hB
      simp only [c65, hH2, lA, e1, hK4, s4, w1, lB, e2, hK6, s6, w2, bA, bB, sy, tup, ↓reduceIte, Nat.reduceEqDiff, Nat.reduceAdd, Nat.reduceSub, Nat.reduceMul, Nat.reduceDiv, Nat.reduceMod, Nat.reduceLeDiff, Int.reduceBEq, reduceCtorEq]
      exact ⟨trivial, .inr trivial, _, rfl, tt, .inr (.inr ⟨by simp [hA, hB], rfl⟩)⟩
  · have bA : (eA == 0) = false := by simpa using hA
    by_cases hB : eB = 0
    · have bB : (eB == 0) = true := by simpa using hB
      simp only [c65, hH2, lA, e1, hK4, s4, w1, lB, e2, hK6, s6, w2, bA, bB, sy, tup, ↓reduceIte, Nat.reduceEqDiff, Nat.reduceAdd, Nat.reduceSub, Nat.reduceMul, Nat.reduceDiv, Nat.reduceMod, Nat.reduceLeDiff, Int.reduceBEq, reduceCtorEq]
      exact ⟨trivial, .inr trivial, _, rfl, tt, .inr (.inl ⟨by simp [hA, hB], rfl⟩)⟩
    · have bB : (eB == 0) = false := by simpa using hB
      simp only [c65, hH2, lA, e1, hK4, s4, w1, lB, e2, hK6, s6, w2, bA, bB, sy, tup, ↓reduceIte, Nat.reduceEqDiff, Nat.reduceAdd, Nat.reduceSub, Nat.reduceMul, Nat.reduceDiv, Nat.reduceMod, Nat.reduceLeDiff, Int.reduceBEq, reduceCtorEq]
      exact ⟨trivial, .inr trivial, _, rfl, tt, .inl ⟨by simp [hA, hB], rfl⟩⟩
noncomputable def newC (A B : Nat) : Option Nat := (newW A B).map fun w => if w = 1 then B else A
theorem newC_ok {A B C : Nat} (h : newC A B = some C) : getE C = 0 ∧ (C = A ∨ C = B) := by
  unfold newC newW at h
  by_cases h1 : getE A ≠ 0 ∧ getE B ≠ 0
  · rw [if_pos h1] at h; cases h
  · rw [if_neg h1] at h
    by_cases h2 : getE A ≠ 0 ∨ (getE B = 0 ∧ numOf A < numOf B)
    · rw [if_pos h2] at h
      cases h
      refine ⟨?_, .inr rfl⟩
      show getE B = 0
      rcases h2 with h2 | h2
      · exact Classical.byContradiction fun h3 => h1 ⟨h2, h3⟩
      · exact h2.1
    · rw [if_neg h2] at h
      cases h
      refine ⟨?_, .inl rfl⟩
      show getE A = 0
      exact Classical.byContradiction fun h3 => h2 (.inl h3)
theorem newest2_ok (H : Heap) (A B : Nat) {lf : Nat} (hlf : 60 < lf) (n : Nat) : ret (callS Try.prog S0 lf (n + 7) 50 [.blk A, .blk B] H) fun v H' => Turns Z H H' ∧
    ((newC A B = none ∧ v = .tuple [.int .u64 0, .agg zrow, .int .i64 7]) ∨ ∃ C, newC A B = some C ∧ v = .tuple [.int .u64 ((sealN C : Nat) : Int), gSup C, .int .i64 0]) := by
  have t3 := ((Turns.add Z H (.rows false 64 [[.blk A]])).addm (.rows false 64 [[.blk B]])).addm (.rows false 23 [zrow])
  have hg0 : (H.add (.rows false 64 [[.blk A]])).get (.run H.next) = some (.rows false 64 [[.blk A]]) := by rw [Heap.get_add, if_pos rfl]
  have hgA : (((H.add (.rows false 64 [[.blk A]])).add (.rows false 64 [[.blk B]])).add (.rows false 23 [zrow])).get (.run H.next) = some (.rows false 64 [[.blk A]]) := by
    rw [Heap.get_add, if_neg (run_ne (by simp; omega)), Heap.get_add, if_neg (run_ne (by simp)), hg0]
  have hgB : (((H.add (.rows false 64 [[.blk A]])).add (.rows false 64 [[.blk B]])).add (.rows false 23 [zrow])).get (.run (H.next + 1)) = some (.rows false 64 [[.blk B]]) := by
    rw [Heap.get_add, if_neg (run_ne (by simp)), Heap.get_add, if_pos (by simp)]
  have hgZ : (((H.add (.rows false 64 [[.blk A]])).add (.rows false 64 [[.blk B]])).add (.rows false 23 [zrow])).get (.run (H.next + 1 + 1)) = some (.rows false 23 [zrow]) := by
    rw [Heap.get_add, if_pos (by simp)]
  have hn : (((H.add (.rows false 64 [[.blk A]])).add (.rows false 64 [[.blk B]])).add (.rows false 23 [zrow])).next = H.next + 3 := by simp
  have hzr : zrow = [.int .u64 0, .int .i64 0, .int .i64 0, .int .i64 0, .int .i64 0, .int .u8 0, .int .u8 0, .int .u8 0, .int .u8 0, .int .u8 0, .int .u8 0, .int .u8 0, .int .u8 0, .int .u8 0, .int .u8 0, .int .u8 0, .int .u8 0, .int .u8 0, .int .u8 0, .int .u8 0, .int .u8 0, .int .i64 0, .bool false] := rfl
  generalize hH2 : ((H.add (.rows false 64 [[.blk A]])).add (.rows false 64 [[.blk B]])).add (.rows false 23 [zrow]) = H2 at *
  rw [hzr] at hH2
  have old : ∀ {H' : Heap}, Turns Z H2 H' → H'.get (.run H.next) = some (.rows false 64 [[.blk A]]) ∧ H'.get (.run (H.next + 1)) = some (.rows false 64 [[.blk B]]) ∧ H'.get (.run (H.next + 1 + 1)) = some (.rows false 23 [zrow]) := fun t =>
    ⟨(t.same (.run H.next) (by show _ < _; omega) id).trans hgA, (t.same (.run (H.next + 1)) (by show _ < _; omega) id).trans hgB, (t.same (.run (H.next + 1 + 1)) (by show _ < _; omega) id).trans hgZ⟩
  have ld : ∀ {H' : Heap}, Turns Z H2 H' → loadAt H' ⟨.run H.next, 0⟩ 64 = some [.blk A] ∧ loadAt H' ⟨.run (H.next + 1), 0⟩ 64 = some [.blk B] := fun t => by
    obtain ⟨h1, h2, _⟩ := old t
    exact ⟨by rw [loadAt_eq h1 rfl]; exact Dp _ _, by rw [loadAt_eq h2 rfl]; exact Dp _ _⟩
  have sto : ∀ {H' : Heap}, Turns Z H2 H' → ∀ {row : List V}, SRow row → ∃ H'', storeAt H' ⟨.run (H.next + 1 + 1), 0⟩ row = some H'' ∧ loadAt H'' ⟨.run (H.next + 1 + 1), 0⟩ 23 = some row ∧ Turns Z H H'' := fun {H'} t {row} R => by
    refine ⟨_, storeAt_eq (old t).2.2 (r := zrow) (r' := row) rfl R.put, ?_, (t3.trans t).setnew (by omega) _⟩
    rw [loadAt_eq (b := .run (H.next + 1 + 1)) (r := row) (by rw [Heap.get_set, if_pos rfl]) rfl, cut_thin R.thin (by have := R.len; omega)]
    simp [← R.len]
  obtain ⟨lA, lB⟩ := ld (Turns.refl Z H2)
  obtain ⟨v1, H3, e1, t1, hv⟩ := newest_ok H2 A B hlf n
  obtain ⟨lA3, lB3⟩ := ld t1
  have p1 : Go.Am.put [.blk 0, .blk 0] 0 [.blk A] = some [.blk A, .blk 0] := rfl
  have p2 : Go.Am.put [.blk A, .blk 0] 64 [.blk B] = some [.blk A, .blk B] := rfl
  have c0 : cut [.blk A, .blk B] 0 64 = some [.blk A] := rfl
  have c1 : cut [.blk A, .blk B] 64 64 = some [.blk B] := rfl
  refine ret_call rfl c50_eq ?_
  rcases hv with ⟨hw, rfl⟩ | ⟨hw, rfl⟩ | ⟨hw, rfl⟩
  · obtain ⟨F, sf, lf', tf⟩ := sto t1 SRow.z
    have w := SRow.z.width
    rw [hzr] at sf lf' w ⊢
    simp only [c50, hH2, lA, lB, e1, sf, lf', w, sy, tup, ↓reduceIte, Nat.reduceEqDiff, Nat.reduceAdd, Nat.reduceSub, Nat.reduceMul, Nat.reduceDiv, Nat.reduceMod, Nat.reduceLeDiff, Int.reduceBEq, reduceCtorEq]
    exact ⟨trivial, .inr trivial, _, rfl, tf, .inl ⟨by unfold newC; rw [hw]; rfl, rfl⟩⟩
  · have hC : newC A B = some B := by unfold newC; rw [hw]; rfl
    obtain ⟨v2, H4, e2, t2, row, rfl, R, hrow⟩ := sgr_ok H3 B hlf (n + 1)
    change callS Try.prog S0 lf (n + 6) 66 _ _ = _ at e2
    obtain ⟨F, sf, lf', tf⟩ := sto (t1.trans t2) R
    have w := R.width
    have hE := (newC_ok hC).1
    have hN : numOf B = sealN B := by unfold numOf; rw [if_pos hE]
    have hr := hrow hE
    rw [hE, hN] at e2
    simp only [c50, hH2, lA, lB, e1, lA3, lB3, p1, p2, c0, c1, e2, sf, lf', w, sy, tup, ↓reduceIte, Nat.reduceEqDiff, Nat.reduceAdd, Nat.reduceSub, Nat.reduceMul, Nat.reduceDiv, Nat.reduceMod, Nat.reduceLeDiff, Int.reduceBEq, reduceCtorEq]
    exact ⟨trivial, .inr trivial, _, rfl, tf, .inr ⟨B, hC, by rw [← hr]⟩⟩
  · have hC : newC A B = some A := by unfold newC; rw [hw]; rfl
    obtain ⟨v2, H4, e2, t2, row, rfl, R, hrow⟩ := sgr_ok H3 A hlf (n + 1)
    change callS Try.prog S0 lf (n + 6) 66 _ _ = _ at e2
    obtain ⟨F, sf, lf', tf⟩ := sto (t1.trans t2) R
    have w := R.width
    have hE := (newC_ok hC).1
    have hN : numOf A = sealN A := by unfold numOf; rw [if_pos hE]
    have hr := hrow hE
    rw [hE, hN] at e2
    simp only [c50, hH2, lA, lB, e1, lA3, lB3, p1, p2, c0, c1, e2, sf, lf', w, sy, tup, ↓reduceIte, Nat.reduceEqDiff, Nat.reduceAdd, Nat.reduceSub, Nat.reduceMul, Nat.reduceDiv, Nat.reduceMod, Nat.reduceLeDiff, Int.reduceBEq, reduceCtorEq]
    exact ⟨trivial, .inr trivial, _, rfl, tf, .inr ⟨A, hC, by rw [← hr]⟩⟩
end Go.Proofs.Ytabebpemfinejaa.draft

set_option linter.unusedVariables false
set_option linter.unusedSimpArgs false
set_option maxRecDepth 10000
namespace Go.Proofs.Ytabebpemfinejaa.draft
open Go.Am
noncomputable def c51_l0 : C := .seq (.reg [
 qo 25 (.p (arF .lss (tt 24) (tt 23))) [pp 24, pp 23]]) (
 .seq (.cond (tt 25) (.skip) (.exit 0)) (
 .seq (.block 1 (.seq (.reg [
 mv 26 24,
 mv 5 26]) (
 .seq (.regD [
 mv 27 0,
 mv 28 5,
 qo 29 (.c (callF (ff 21) [(tt 27), (tt 28)])) [pp 27, pp 28],
 qo 30 (.p (faddrF (tt 3) 1)) [pp 3],
 qo 31 (.r (loadF (tt 30) 1 .sc)) [pp 30],
 qo 32 (.p (arF .add (ii 2) (tt 31))) [pp 31],
 qo 33 (.p (arF .lss (tt 29) (tt 32))) [pp 29, pp 32]] [0, 0, 3, 0, 8, 24, 63]) (
 .cond (tt 33) (.seq (.reg [
 qo 4 (.p (S.get (.c (.bool false)))) []]) (
 .ret)) (.skip))))) (
 .reg [
 qo 34 (.p (arF .add (tt 24) (ii 1))) [pp 24],
 mv 24 34])))
noncomputable def c51 : CFn := ⟨[.tmp (pp 4)],
 .seq (.reg [
 qo 3 (.m (boxF 3 (tt 1))) [pp 1],
 qo 4 (.p (S.get (.c (.bool false)))) []]) (
 .seq (.seq (.regD [
 mv 6 0,
 qo 7 (.c (callF (ff 19) [(tt 6)])) [pp 6],
 qo 8 (.p (faddrF (tt 3) 0)) [pp 3],
 qo 9 (.r (loadF (tt 8) 1 .sc)) [pp 8],
 qo 10 (.p (arF .add (tt 9) (ii 1))) [pp 9],
 qo 11 (.p (eqcF true false [.int .i64] (tt 7) (tt 10))) [pp 7, pp 10],
 mv 12 11,
 mg 13 0 12 false,
 qg 14 (.p (faddrF (tt 3) 0)) 12 false [pp 3],
 qg 15 (.r (loadF (tt 14) 1 .sc)) 12 false [pp 14],
 qg 16 (.c (callF (ff 21) [(tt 13), (tt 15)])) 12 false [pp 13, pp 15],
 qg 17 (.p (faddrF (tt 3) 2)) 12 false [pp 3],
 qg 18 (.r (loadF (tt 17) 1 .sc)) 12 false [pp 17],
 qg 19 (.p (arF .add (ii 10) (tt 18))) 12 false [pp 18],
 qg 20 (.p (arF .lss (tt 16) (tt 19))) 12 false [pp 16, pp 19],
 qo 21 (.p (pickF (tt 12) (.c (.bool true)) (tt 20))) [pp 12, pp 20]] [0, 1, 0, 4, 12, 31, 63, 127, 127, 383, 1023, 127, 2175, 6271, 16383, 32767]) (
 .cond (tt 21) (.seq (.reg [
 qo 4 (.p (S.get (.c (.bool false)))) []]) (
 .ret)) (.skip))) (
 .seq (.seq (.reg [
 qo 22 (.p (faddrF (tt 3) 0)) [pp 3],
 qo 23 (.r (loadF (tt 22) 1 .sc)) [pp 22],
 qo 24 (.p (S.get (ii 0))) []]) (
 .block 0 (.loop c51_l0))) (
 .seq (.reg [
 qo 4 (.p (S.get (.c (.bool true)))) []]) (
 .ret))))⟩
theorem c51_eq : fnOf Try.prog 51 = some c51 := by kernel_rfl
structure GeoAt (H : Heap) (b : Bk) (m s r : Int) : Prop where
  own : H.get b = some (.rows false 3 [[.int .i64 m, .int .i64 s, .int .i64 r]])
theorem GeoAt.m {H : Heap} {b : Bk} {m s r : Int} (h : GeoAt H b m s r) : loadAt H ⟨b, 0⟩ 1 = some [.int .i64 m] := by rw [loadAt_eq h.own rfl]; rfl
theorem GeoAt.s {H : Heap} {b : Bk} {m s r : Int} (h : GeoAt H b m s r) : loadAt H ⟨b, 1⟩ 1 = some [.int .i64 s] := by rw [loadAt_eq h.own rfl]; rfl
theorem GeoAt.r {H : Heap} {b : Bk} {m s r : Int} (h : GeoAt H b m s r) : loadAt H ⟨b, 2⟩ 1 = some [.int .i64 r] := by rw [loadAt_eq h.own rfl]; rfl
def fits (N : Nat) (sec : Int → Int) (m s r : Int) : Prop := (N : Int) = m + 1 ∧ r + 10 ≤ sec m ∧ ∀ d, 0 ≤ d ∧ d < m → s + 2 ≤ sec d
theorem gfits_ok (H : Heap) {b : Bk} {m s r : Int} (hm : may m s r = true) {N : Nat} {sec : Int → Int} (lf k : Nat) (hlf : 20 < lf)
    (hd : ∀ H', Turns Z H H' → callS Try.prog S0 lf (k + 3) 19 [.ptr (some ⟨b, 0⟩)] H' = some (.v (.int .i64 (N : Int)), H'))
    (hs : ∀ H' d, Turns Z H H' → callS Try.prog S0 lf (k + 3) 21 [.ptr (some ⟨b, 0⟩), .int .i64 d] H' = some (.v (.int .i64 (sec d)), H')) :
    ret (callS Try.prog S0 lf (k + 4) 51 [.ptr (some ⟨b, 0⟩), geo m s r] H) fun v H' => Turns Z H H' ∧ ∃ z : Bool, v = .bool z ∧ (z = true ↔ fits N sec m s r) := by
  have t1 := Turns.add Z H (.rows false 3 [[.int .i64 m, .int .i64 s, .int .i64 r]])
  have hg : (H.add (.rows false 3 [[.int .i64 m, .int .i64 s, .int .i64 r]])).get (.run H.next) = some (.rows false 3 [[.int .i64 m, .int .i64 s, .int .i64 r]]) := by rw [Heap.get_add, if_pos rfl]
  have og : (H.add (.rows false 3 [[.int .i64 m, .int .i64 s, .int .i64 r]])).Old (.run H.next) := by show _ < _; simp
  have hr : ∀ {H' : Heap}, Turns Z (H.add (.rows false 3 [[.int .i64 m, .int .i64 s, .int .i64 r]])) H' → GeoAt H' (.run H.next) m s r := fun t => ⟨(t.same _ og id).trans hg⟩
  generalize hH1 : H.add (.rows false 3 [[.int .i64 m, .int .i64 s, .int .i64 r]]) = H1 at *
  obtain ⟨bm, bs, br⟩ := may_t hm
  have d1 := hd H1 t1
  have m1 := (hr (Turns.refl Z H1)).m
  have r1 := (hr (Turns.refl Z H1)).r
  have s1 := hs H1 m t1
  have wm : IntKind.i64.wrap (m + 1) = m + 1 := wrap_i64 (by omega)
  have wr : IntKind.i64.wrap (10 + r) = r + 10 := by rw [wrap_i64 (by omega)]; omega
  obtain ⟨q, hqd⟩ : ∃ q : List (Option V × Option V), q = [(loadF (.t (Tr.path 8)) 1 .sc (Tr.setP (Tr.path 8) (.ptr (some ⟨.run H.next, 0⟩)) .e) H1, some (.int .i64 m)), (loadF (.t (Tr.path 8)) 1 .sc (Tr.setP (Tr.path 8) (.ptr (some ⟨.run H.next, 0⟩)) .e) H1, some (.int .i64 m))] := ⟨_, rfl⟩
  have hq : ∀ p ∈ q, p.1 = p.2 := by
    rw [hqd]
    intro p hp
    simp only [List.mem_cons, List.not_mem_nil, or_false] at hp
    rcases hp with rfl | rfl
    · simp only [m1, sy, tup, ↓reduceIte, Nat.reduceEqDiff, Nat.reduceAdd, Nat.reduceSub, Nat.reduceMul, Nat.reduceDiv, Nat.reduceMod, Nat.reduceLeDiff, Int.reduceBEq, reduceCtorEq]
    · simp only [m1, sy, tup, ↓reduceIte, Nat.reduceEqDiff, Nat.reduceAdd, Nat.reduceSub, Nat.reduceMul, Nat.reduceDiv, Nat.reduceMod, Nat.reduceLeDiff, Int.reduceBEq, reduceCtorEq]
  obtain ⟨q2, hqd2⟩ : ∃ q : List (Option V × Option V), q = [(loadF (.t (Tr.path 8)) 1 .sc (Tr.setP (Tr.path 8) (.ptr (some ⟨.run H.next, 0⟩)) .e) H1, some (.int .i64 m)), (loadF (.t (Tr.path 8)) 1 .sc (Tr.setP (Tr.path 8) (.ptr (some ⟨.run H.next, 0⟩)) .e) H1, some (.int .i64 m)), (loadF (.t (Tr.path 17)) 1 .sc (Tr.setP (Tr.path 17) (.ptr (some ⟨.run H.next, 2⟩)) .e) H1, some (.int .i64 r)), (loadF (.t (Tr.path 17)) 1 .sc (Tr.setP (Tr.path 17) (.ptr (some ⟨.run H.next, 2⟩)) .e) H1, some (.int .i64 r))] := ⟨_, rfl⟩
  have hq2 : ∀ p ∈ q2, p.1 = p.2 := by
    rw [hqd2]
    intro p hp
    simp only [List.mem_cons, List.not_mem_nil, or_false] at hp
    rcases hp with rfl | rfl | rfl | rfl
    · simp only [m1, sy, tup, ↓reduceIte, Nat.reduceEqDiff, Nat.reduceAdd, Nat.reduceSub, Nat.reduceMul, Nat.reduceDiv, Nat.reduceMod, Nat.reduceLeDiff, Int.reduceBEq, reduceCtorEq]
    · simp only [m1, sy, tup, ↓reduceIte, Nat.reduceEqDiff, Nat.reduceAdd, Nat.reduceSub, Nat.reduceMul, Nat.reduceDiv, Nat.reduceMod, Nat.reduceLeDiff, Int.reduceBEq, reduceCtorEq]
    · simp only [r1, sy, tup, ↓reduceIte, Nat.reduceEqDiff, Nat.reduceAdd, Nat.reduceSub, Nat.reduceMul, Nat.reduceDiv, Nat.reduceMod, Nat.reduceLeDiff, Int.reduceBEq, reduceCtorEq]
    · simp only [r1, sy, tup, ↓reduceIte, Nat.reduceEqDiff, Nat.reduceAdd, Nat.reduceSub, Nat.reduceMul, Nat.reduceDiv, Nat.reduceMod, Nat.reduceLeDiff, Int.reduceBEq, reduceCtorEq]
  refine ret_call rfl c51_eq ?_
  by_cases hN : (N : Int) = m + 1
  · have bN : ((N : Int) == m + 1) = true := by simpa using hN
    by_cases hR : sec m < r + 10
    · simp only [c51, geo, hH1, d1, m1, r1, s1, wm, wr, bN, hR, sy, tup, ↓reduceIte, Nat.reduceEqDiff, Nat.reduceAdd, Nat.reduceSub, Nat.reduceMul, Nat.reduceDiv, Nat.reduceMod, Nat.reduceLeDiff, Int.reduceBEq, reduceCtorEq]
      rw [endD_q (q := q2) (by kernel_rfl) (by rw [hqd2]; kernel_rfl)]
      simp only [sy, tup, ↓reduceIte, Nat.reduceEqDiff, Nat.reduceAdd, Nat.reduceSub, Nat.reduceMul, Nat.reduceDiv, Nat.reduceMod, Nat.reduceLeDiff, Int.reduceBEq, reduceCtorEq]
      exact ⟨trivial, .inr trivial, _, rfl, t1.trans ((Turns.refl Z H1).owe hq2), false, rfl, by unfold fits; simp; omega⟩
    · have tq := (Turns.refl Z H1).owe hq2
      have m3 := (hr tq).m
      simp only [c51, geo, hH1, d1, m1, r1, s1, wm, wr, bN, hR, sy, tup, ↓reduceIte, Nat.reduceEqDiff, Nat.reduceAdd, Nat.reduceSub, Nat.reduceMul, Nat.reduceDiv, Nat.reduceMod, Nat.reduceLeDiff, Int.reduceBEq, reduceCtorEq]
      rw [endD_q (q := q2) (by kernel_rfl) (by rw [hqd2]; kernel_rfl)]
      simp only [m3, sy, tup, ↓reduceIte, Nat.reduceEqDiff, Nat.reduceAdd, Nat.reduceSub, Nat.reduceMul, Nat.reduceDiv, Nat.reduceMod, Nat.reduceLeDiff, Int.reduceBEq, reduceCtorEq]
      have hloop : ∀ t : T, t.getP (Tr.path 0) = some (.ptr (some ⟨b, 0⟩)) → t.getP (Tr.path 3) = some (.ptr (some ⟨.run H.next, 0⟩)) → t.getP (Tr.path 23) = some (.int .i64 m) → t.getP (Tr.path 24) = some (.int .i64 0) →
          wp (loopF (runC (callS Try.prog S0 lf (k + 3)) lf c51_l0) lf ⟨t, H1.owe q2, []⟩) fun x s' => s'.d = [] ∧ Turns Z H1 s'.H ∧ ((x = .ex 0 ∧ (∀ d, 0 ≤ d ∧ d < m → s + 2 ≤ sec d)) ∨ (x = .ret ∧ ¬ (∀ d, 0 ≤ d ∧ d < m → s + 2 ≤ sec d) ∧ s'.t.getP (Tr.path 4) = some (.bool false))) := by
        intro t q0 q3 q23 q24
        refine wp_loopF (fun j s' => ∃ i : Nat, (j : Int) = m - i ∧ (i : Int) ≤ m ∧ s'.d = [] ∧ Turns Z H1 s'.H ∧ (∀ d, 0 ≤ d ∧ d < (i : Int) → s + 2 ≤ sec d) ∧ s'.t.getP (Tr.path 0) = some (.ptr (some ⟨b, 0⟩)) ∧ s'.t.getP (Tr.path 3) = some (.ptr (some ⟨.run H.next, 0⟩)) ∧ s'.t.getP (Tr.path 23) = some (.int .i64 m) ∧ s'.t.getP (Tr.path 24) = some (.int .i64 (i : Int))) ?_ lf m.toNat _ ⟨0, by omega, by omega, rfl, tq, fun d hd => absurd hd (by omega), q0, q3, q23, q24⟩ (by omega)
        rintro j ⟨t, HH, dd⟩ ⟨i, hj, hi, hdd, tz, hall, q0, q3, q23, q24⟩
        dsimp only at hdd tz q0 q3 q23 q24
        subst hdd
        by_cases hlt : (i : Int) < m
        · have eS := hs HH (i : Int) (t1.trans tz)
          have ls := (hr tz).s
          have ws : IntKind.i64.wrap (2 + s) = s + 2 := by rw [wrap_i64 (by omega)]; omega
          have w1 : IntKind.i64.wrap ((i : Int) + 1) = ((i + 1 : Nat) : Int) := by rw [wrap_i64 (by omega)]; omega
          obtain ⟨q', hqd'⟩ : ∃ q' : List (Option V × Option V), q' = [(loadF (.t (Tr.path 30)) 1 .sc (Tr.setP (Tr.path 30) (.ptr (some ⟨.run H.next, 1⟩)) .e) HH, some (.int .i64 s)), (loadF (.t (Tr.path 30)) 1 .sc (Tr.setP (Tr.path 30) (.ptr (some ⟨.run H.next, 1⟩)) .e) HH, some (.int .i64 s))] := ⟨_, rfl⟩
          have hq' : ∀ p ∈ q', p.1 = p.2 := by
            rw [hqd']
            intro p hp
            simp only [List.mem_cons, List.not_mem_nil, or_false] at hp
            rcases hp with rfl | rfl
            · simp only [ls, sy, tup, ↓reduceIte, Nat.reduceEqDiff, Nat.reduceAdd, Nat.reduceSub, Nat.reduceMul, Nat.reduceDiv, Nat.reduceMod, Nat.reduceLeDiff, Int.reduceBEq, reduceCtorEq]
            · simp only [ls, sy, tup, ↓reduceIte, Nat.reduceEqDiff, Nat.reduceAdd, Nat.reduceSub, Nat.reduceMul, Nat.reduceDiv, Nat.reduceMod, Nat.reduceLeDiff, Int.reduceBEq, reduceCtorEq]
          have tz' : Turns Z H1 (HH.owe q') := tz.owe hq'
          by_cases hsec : sec (i : Int) < s + 2
          · simp only [c51_l0, q0, q3, q23, q24, hlt, eS, ls, ws, hsec, sy, tup, ↓reduceIte, Nat.reduceEqDiff, Nat.reduceAdd, Nat.reduceSub, Nat.reduceMul, Nat.reduceDiv, Nat.reduceMod, Nat.reduceLeDiff, Int.reduceBEq, reduceCtorEq]
            rw [endD_q (q := q') (by kernel_rfl) (by rw [hqd']; kernel_rfl)]
            simp only [sy, tup, ↓reduceIte, Nat.reduceEqDiff, Nat.reduceAdd, Nat.reduceSub, Nat.reduceMul, Nat.reduceDiv, Nat.reduceMod, Nat.reduceLeDiff, Int.reduceBEq, reduceCtorEq]
            exact ⟨trivial, tz', .inr ⟨trivial, fun h => by have := h (i : Int) (by omega); omega, trivial⟩⟩
          · simp only [c51_l0, q0, q3, q23, q24, hlt, eS, ls, ws, hsec, sy, tup, ↓reduceIte, Nat.reduceEqDiff, Nat.reduceAdd, Nat.reduceSub, Nat.reduceMul, Nat.reduceDiv, Nat.reduceMod, Nat.reduceLeDiff, Int.reduceBEq, reduceCtorEq]
            rw [endD_q (q := q') (by kernel_rfl) (by rw [hqd']; kernel_rfl)]
            simp only [q0, q3, q23, q24, w1, sy, tup, ↓reduceIte, Nat.reduceEqDiff, Nat.reduceAdd, Nat.reduceSub, Nat.reduceMul, Nat.reduceDiv, Nat.reduceMod, Nat.reduceLeDiff, Int.reduceBEq, reduceCtorEq]
            refine ⟨j - 1, by omega, i + 1, by omega, by omega, trivial, tz', fun d hd => ?_, by simp [q0], by simp [q3], by simp [q23], by simp⟩
            by_cases e : d = (i : Int)
            · subst e; omega
            · exact hall d (by omega)
        · have hnl : ¬ (i : Int) < m := hlt
          have : (i : Int) = m := by omega
          simp only [c51_l0, q0, q3, q23, q24, hnl, sy, tup, ↓reduceIte, Nat.reduceEqDiff, Nat.reduceAdd, Nat.reduceSub, Nat.reduceMul, Nat.reduceDiv, Nat.reduceMod, Nat.reduceLeDiff, Int.reduceBEq, reduceCtorEq]
          exact ⟨trivial, tz, .inl ⟨trivial, fun d hd => hall d (by omega)⟩⟩
      refine wp_ctx (F := fun r => seqC _ _ _ (blockC _ r)) (hloop _ ?_ ?_ ?_ ?_) ?_
      · simp only [sy, tup, ↓reduceIte, Nat.reduceEqDiff, Nat.reduceAdd, Nat.reduceSub, Nat.reduceMul, Nat.reduceDiv, Nat.reduceMod, Nat.reduceLeDiff, Int.reduceBEq, reduceCtorEq]
      · simp only [sy, tup, ↓reduceIte, Nat.reduceEqDiff, Nat.reduceAdd, Nat.reduceSub, Nat.reduceMul, Nat.reduceDiv, Nat.reduceMod, Nat.reduceLeDiff, Int.reduceBEq, reduceCtorEq]
      · simp only [sy, tup, ↓reduceIte, Nat.reduceEqDiff, Nat.reduceAdd, Nat.reduceSub, Nat.reduceMul, Nat.reduceDiv, Nat.reduceMod, Nat.reduceLeDiff, Int.reduceBEq, reduceCtorEq]
      · simp only [sy, tup, ↓reduceIte, Nat.reduceEqDiff, Nat.reduceAdd, Nat.reduceSub, Nat.reduceMul, Nat.reduceDiv, Nat.reduceMod, Nat.reduceLeDiff, Int.reduceBEq, reduceCtorEq]
      rintro x ⟨t, HH, dd⟩ ⟨hdd, tz, ⟨rfl, hall⟩ | ⟨rfl, hno, q4⟩⟩
      · dsimp only at hdd tz
        subst hdd
        simp only [sy, tup, ↓reduceIte, Nat.reduceEqDiff, Nat.reduceAdd, Nat.reduceSub, Nat.reduceMul, Nat.reduceDiv, Nat.reduceMod, Nat.reduceLeDiff, Int.reduceBEq, reduceCtorEq]
        exact ⟨trivial, .inr trivial, _, rfl, t1.trans tz, true, rfl, by unfold fits; simp; exact ⟨hN, by omega, fun d h1 h2 => hall d ⟨h1, h2⟩⟩⟩
      · dsimp only at hdd tz q4
        subst hdd
        simp only [q4, sy, tup, ↓reduceIte, Nat.reduceEqDiff, Nat.reduceAdd, Nat.reduceSub, Nat.reduceMul, Nat.reduceDiv, Nat.reduceMod, Nat.reduceLeDiff, Int.reduceBEq, reduceCtorEq]
        exact ⟨trivial, .inr trivial, _, rfl, t1.trans tz, false, rfl, by unfold fits; simp; exact fun _ _ => by simpa using hno⟩
  · have bN : ((N : Int) == m + 1) = false := by simpa using hN
    simp only [c51, geo, hH1, d1, m1, wm, bN, sy, tup, ↓reduceIte, Nat.reduceEqDiff, Nat.reduceAdd, Nat.reduceSub, Nat.reduceMul, Nat.reduceDiv, Nat.reduceMod, Nat.reduceLeDiff, Int.reduceBEq, reduceCtorEq]
    rw [endD_q (q := q) (by kernel_rfl) (by rw [hqd]; kernel_rfl)]
    simp only [sy, tup, ↓reduceIte, Nat.reduceEqDiff, Nat.reduceAdd, Nat.reduceSub, Nat.reduceMul, Nat.reduceDiv, Nat.reduceMod, Nat.reduceLeDiff, Int.reduceBEq, reduceCtorEq]
    exact ⟨trivial, .inr trivial, _, rfl, t1.trans ((Turns.refl Z H1).owe hq), false, rfl, by unfold fits; simp [hN]⟩
end Go.Proofs.Ytabebpemfinejaa.draft

set_option linter.unusedVariables false
set_option linter.unusedSimpArgs false
set_option maxRecDepth 10000
namespace Go.Proofs.Ytabebpemfinejaa.disk
open Go.Am
theorem bdevs {H : Heap} {b ds : Bk} {so : Nat} {l : List Dv} {B : Bn} (h : BRep H b ds so l B) (hl : l ≠ []) (lf m : Nat) : callS Try.prog S0 lf (m + 2) 19 [.ptr (some ⟨b, 0⟩)] H = some (.v (.int .i64 (l.length : Int)), H) := by
  have e1 := bnone h.at' hl lf m
  have l0 := bload0 h.at'
  obtain ⟨v, H', e, rfl, rfl⟩ : ret (callS Try.prog S0 lf (m + 2) 19 [.ptr (some ⟨b, 0⟩)] H) fun v H' => v = .int .i64 (l.length : Int) ∧ H' = H := by
    refine ret_call rfl c19_eq ?_
    simp only [c19, e1, l0, sy, tup, ↓reduceIte, Nat.reduceEqDiff, Nat.reduceAdd, Nat.reduceSub, Nat.reduceMul, Nat.reduceDiv, Nat.reduceMod, Nat.reduceLeDiff, Int.reduceBEq, reduceCtorEq]
    exact ⟨trivial, .inr trivial, _, rfl, rfl, trivial⟩
  exact e
end Go.Proofs.Ytabebpemfinejaa.disk
namespace Go.Proofs.Ytabebpemfinejaa.draft
open Go.Am
noncomputable def c32 : CFn := ⟨[.tmp (pp 4), .cell (pp 5) 23 .ag, .tmp (pp 6)],
 .seq (.reg [
 qo 4 (.p (S.get (.c (.int .u64 0)))) [],
 qo 5 (.m (allocF 23 [.int .u64 0, .int .i64 0, .int .i64 0, .int .i64 0, .int .i64 0, .int .u8 0, .int .u8 0, .int .u8 0, .int .u8 0, .int .u8 0, .int .u8 0, .int .u8 0, .int .u8 0, .int .u8 0, .int .u8 0, .int .u8 0, .int .u8 0, .int .u8 0, .int .u8 0, .int .u8 0, .int .u8 0, .int .i64 0, .bool false])) [],
 qo 6 (.p (S.get (ii 0))) []]) (
 .seq (.block 0 (.seq (.reg [
 mv 14 0,
 qo 15 (.c (callF (ff 19) [(tt 14)])) [pp 14],
 qo 16 (.p (eqcF false false [.int .i64] (tt 15) (ii 0))) [pp 15],
 mv 13 16]) (
 .cond (tt 13) (.seq (.reg [
 qo 17 (.p (buildF [.int .u64 0, .int .i64 0, .int .i64 0, .int .i64 0, .int .i64 0, .int .u8 0, .int .u8 0, .int .u8 0, .int .u8 0, .int .u8 0, .int .u8 0, .int .u8 0, .int .u8 0, .int .u8 0, .int .u8 0, .int .u8 0, .int .u8 0, .int .u8 0, .int .u8 0, .int .u8 0, .int .u8 0, .int .i64 0, .bool false] .ag [])) [],
 qo 4 (.p (S.get (.c (.int .u64 0)))) [],
 qn (.a (storeF (tt 5) (tt 17) 23)) [pp 5, pp 17],
 qo 6 (.p (S.get (ii 1))) []]) (
 .ret)) (.seq (.reg [
 mv 19 0,
 qo 20 (.c (callF (ff 31) [(tt 19)])) [pp 19],
 mv 18 20]) (
 .cond (tt 18) (.seq (.reg [
 qo 21 (.p (buildF [.int .u64 0, .int .i64 0, .int .i64 0, .int .i64 0, .int .i64 0, .int .u8 0, .int .u8 0, .int .u8 0, .int .u8 0, .int .u8 0, .int .u8 0, .int .u8 0, .int .u8 0, .int .u8 0, .int .u8 0, .int .u8 0, .int .u8 0, .int .u8 0, .int .u8 0, .int .u8 0, .int .u8 0, .int .i64 0, .bool false] .ag [])) [],
 qo 4 (.p (S.get (.c (.int .u64 0)))) [],
 qn (.a (storeF (tt 5) (tt 21) 23)) [pp 5, pp 21],
 qo 6 (.p (S.get (ii 8))) []]) (
 .ret)) (.seq (.reg [
 mv 23 1,
 qo 24 (.p (arF .lss (tt 23) (ii 0))) [pp 23],
 mv 25 24,
 mg 26 1 25 false,
 mg 27 0 25 false,
 qg 28 (.c (callF (ff 19) [(tt 27)])) 25 false [pp 27],
 qg 29 (.p (arF .sub (tt 28) (ii 1))) 25 false [pp 28],
 qg 30 (.p (arF .geq (tt 26) (tt 29))) 25 false [pp 26, pp 29],
 qo 31 (.p (pickF (tt 25) (.c (.bool true)) (tt 30))) [pp 25, pp 30],
 mv 22 31]) (
 .cond (tt 22) (.seq (.reg [
 qo 32 (.p (buildF [.int .u64 0, .int .i64 0, .int .i64 0, .int .i64 0, .int .i64 0, .int .u8 0, .int .u8 0, .int .u8 0, .int .u8 0, .int .u8 0, .int .u8 0, .int .u8 0, .int .u8 0, .int .u8 0, .int .u8 0, .int .u8 0, .int .u8 0, .int .u8 0, .int .u8 0, .int .u8 0, .int .u8 0, .int .i64 0, .bool false] .ag [])) [],
 qo 4 (.p (S.get (.c (.int .u64 0)))) [],
 qn (.a (storeF (tt 5) (tt 32) 23)) [pp 5, pp 32],
 qo 6 (.p (S.get (ii 7))) []]) (
 .ret)) (.skip)))))))) (
 .seq (.reg [
 mv 34 0,
 mv 35 1,
 qo 36 (.c (callF (ff 49) [(tt 34), (tt 35), (ii 0)])) [pp 34, pp 35],
 mv 33 36,
 qo 37 (.p (extF (tt 33) 0)) [pp 33],
 qo 38 (.p (extF (tt 33) 1)) [pp 33],
 qo 7 (.m (allocF 64 [.blk 0])) [],
 qn (.a (storeF (tt 7) (tt 37) 64)) [pp 7, pp 37],
 mv 8 38]) (
 .seq (.reg [
 mv 40 0,
 mv 41 1,
 qo 42 (.c (callF (ff 49) [(tt 40), (tt 41), (ii 1)])) [pp 40, pp 41],
 mv 39 42,
 qo 43 (.p (extF (tt 39) 0)) [pp 39],
 qo 44 (.p (extF (tt 39) 1)) [pp 39],
 qo 9 (.m (allocF 64 [.blk 0])) [],
 qn (.a (storeF (tt 9) (tt 43) 64)) [pp 9, pp 43],
 mv 10 44]) (
 .seq (.seq (.reg [
 mv 45 8,
 qo 46 (.p (eqcF true false [.int .i64] (tt 45) (ii 0))) [pp 45],
 mv 47 46,
 mg 48 10 47 false,
 qg 49 (.p (eqcF true false [.int .i64] (tt 48) (ii 0))) 47 false [pp 48],
 qo 50 (.p (pickF (tt 47) (.c (.bool true)) (tt 49))) [pp 47, pp 49]]) (
 .cond (tt 50) (.seq (.reg [
 qo 51 (.p (buildF [.int .u64 0, .int .i64 0, .int .i64 0, .int .i64 0, .int .i64 0, .int .u8 0, .int .u8 0, .int .u8 0, .int .u8 0, .int .u8 0, .int .u8 0, .int .u8 0, .int .u8 0, .int .u8 0, .int .u8 0, .int .u8 0, .int .u8 0, .int .u8 0, .int .u8 0, .int .u8 0, .int .u8 0, .int .i64 0, .bool false] .ag [])) [],
 qo 4 (.p (S.get (.c (.int .u64 0)))) [],
 qn (.a (storeF (tt 5) (tt 51) 23)) [pp 5, pp 51],
 qo 6 (.p (S.get (ii 7))) []]) (
 .ret)) (.skip))) (
 .seq (.reg [
 qo 53 (.r (loadF (tt 7) 64 .bk)) [pp 7],
 qo 54 (.r (loadF (tt 9) 64 .bk)) [pp 9],
 qo 55 (.c (callF (ff 50) [(tt 53), (tt 54)])) [pp 53, pp 54],
 mv 52 55,
 qo 56 (.p (extF (tt 52) 0)) [pp 52],
 qo 57 (.p (extF (tt 52) 1)) [pp 52],
 qo 58 (.p (extF (tt 52) 2)) [pp 52],
 qo 12 (.m (allocF 23 [.int .u64 0, .int .i64 0, .int .i64 0, .int .i64 0, .int .i64 0, .int .u8 0, .int .u8 0, .int .u8 0, .int .u8 0, .int .u8 0, .int .u8 0, .int .u8 0, .int .u8 0, .int .u8 0, .int .u8 0, .int .u8 0, .int .u8 0, .int .u8 0, .int .u8 0, .int .u8 0, .int .u8 0, .int .i64 0, .bool false])) [],
 mv 11 56,
 qn (.a (storeF (tt 12) (tt 57) 23)) [pp 12, pp 57],
 mv 8 58]) (
 .seq (.seq (.reg [
 mv 59 8,
 qo 60 (.p (eqcF true false [.int .i64] (tt 59) (ii 0))) [pp 59],
 mv 61 60,
 mg 62 11 61 false,
 qg 63 (.p (arF .gtr (tt 62) (.c (.int .u64 2305843009213693952)))) 61 false [pp 62],
 qo 64 (.p (pickF (tt 61) (.c (.bool true)) (tt 63))) [pp 61, pp 63],
 mv 65 64,
 mg 66 0 65 false,
 qg 67 (.p (faddrF (tt 12) 2)) 65 false [pp 12],
 qg 68 (.p (faddrF (tt 67) 0)) 65 false [pp 67],
 qg 69 (.r (loadF (tt 68) 3 .ag)) 65 false [pp 68],
 qg 70 (.c (callF (ff 51) [(tt 66), (tt 69)])) 65 false [pp 66, pp 69],
 qg 71 (.p (unF .not (tt 70))) 65 false [pp 70],
 qo 72 (.p (pickF (tt 65) (.c (.bool true)) (tt 71))) [pp 65, pp 71]]) (
 .cond (tt 72) (.seq (.reg [
 qo 73 (.p (buildF [.int .u64 0, .int .i64 0, .int .i64 0, .int .i64 0, .int .i64 0, .int .u8 0, .int .u8 0, .int .u8 0, .int .u8 0, .int .u8 0, .int .u8 0, .int .u8 0, .int .u8 0, .int .u8 0, .int .u8 0, .int .u8 0, .int .u8 0, .int .u8 0, .int .u8 0, .int .u8 0, .int .u8 0, .int .i64 0, .bool false] .ag [])) [],
 qo 4 (.p (S.get (.c (.int .u64 0)))) [],
 qn (.a (storeF (tt 5) (tt 73) 23)) [pp 5, pp 73],
 qo 6 (.p (S.get (ii 7))) []]) (
 .ret)) (.skip))) (
 .seq (.regD [
 mv 74 11,
 qo 75 (.r (loadF (tt 12) 23 .ag)) [pp 12],
 mv 4 74,
 qn (.a (storeF (tt 5) (tt 75) 23)) [pp 5, pp 75],
 qo 6 (.p (S.get (ii 0))) []] [0, 0, 1, 7, 15]) (
 .ret))))))))⟩
theorem c32_eq : fnOf Try.prog 32 = some c32 := by kernel_rfl
theorem bench_devs {H : Heap} {b ds : Bk} {so : Nat} {l : List disk.Dv} {B : disk.Bn} (h : disk.BRep H b ds so l B) (hl : l ≠ []) (lf m : Nat) : callS Try.prog S0 lf (m + 2) 19 [.ptr (some ⟨b, 0⟩)] H = some (.v (.int .i64 (l.length : Int)), H) := disk.bdevs h hl lf m
def fitsC (N : Nat) (sec : Int → Int) (C : Nat) : Prop := fits N sec (fld C 8 1) (fld C 9 2) (fld C 11 2)
open Classical in
noncomputable def gC (B : disk.Bn) (N : Nat) (d : Int) : Option Nat :=
  if d < 0 ∨ (N : Int) - 1 ≤ d then none else if B.rc d 0 ≠ 0 ∨ B.rc d 1 ≠ 0 then none else match newC (B.read d 0) (B.read d 1) with
    | none => none
    | some C => if sealN C ≤ 2305843009213693952 ∧ fitsC N B.sectors C then some C else none
theorem gC_ok {B : disk.Bn} {N : Nat} {d : Int} {C : Nat} (h : gC B N d = some C) : getE C = 0 ∧ sealN C ≤ 2305843009213693952 ∧ fitsC N B.sectors C ∧ 0 ≤ d ∧ d < (N : Int) - 1 := by
  unfold gC at h
  split at h
  · cases h
  · rename_i hd
    split at h
    · cases h
    · split at h
      · cases h
      · rename_i C' hC
        split at h
        · rename_i hf
          cases h
          exact ⟨(newC_ok hC).1, hf.1, hf.2, by omega, by omega⟩
        · cases h
theorem isSup_of {C : Nat} (h : getE C = 0) : sealE C = 0 ∧ isSup C := by
  unfold getE at h
  by_cases h1 : sealE C ≠ 0
  · rw [if_pos h1] at h; exact absurd h h1
  · rw [if_neg h1] at h
    refine ⟨by simpa using h1, ?_⟩
    apply Classical.byContradiction
    intro h2
    rw [if_neg h2] at h
    cases h
theorem gSup_row (C : Nat) : gSup C = .agg (scells (fld C 0 8) (fld C 13 1) (fld C 8 1) (fld C 9 2) (fld C 11 2) (gSt C) (fld C 18 2) (((fld C 20 1 : Nat) : Int) == 1)) := rfl
theorem gsuper_ok {H : Heap} {b ds : Bk} {so : Nat} {l : List disk.Dv} {B : disk.Bn} (h : disk.BRep H b ds so l B) (hl : l ≠ []) (hg : ∀ D ∈ B.l, disk.Good D) (hdk : B.dk = false) (hlen : l.length ≤ 17) (d : Int) {lf : Nat} (hlf : 1000 < lf) (n : Nat) :
    ret (callS Try.prog S0 lf (n + 8) 32 [.ptr (some ⟨b, 0⟩), .int .i64 d] H) fun v H' => Turns Z H H' ∧
      ((gC B l.length d = none ∧ v = .tuple [.int .u64 0, .agg zrow, .int .i64 7]) ∨ ∃ C, gC B l.length d = some C ∧ v = .tuple [.int .u64 ((sealN C : Nat) : Int), gSup C, .int .i64 0]) := by
  have hzr : zrow = [.int .u64 0, .int .i64 0, .int .i64 0, .int .i64 0, .int .i64 0, .int .u8 0, .int .u8 0, .int .u8 0, .int .u8 0, .int .u8 0, .int .u8 0, .int .u8 0, .int .u8 0, .int .u8 0, .int .u8 0, .int .u8 0, .int .u8 0, .int .u8 0, .int .u8 0, .int .u8 0, .int .u8 0, .int .i64 0, .bool false] := rfl
  have t1 := Turns.add Z H (.rows false 23 [zrow])
  have hg1 : (H.add (.rows false 23 [zrow])).get (.run H.next) = some (.rows false 23 [zrow]) := by rw [Heap.get_add, if_pos rfl]
  have hn1 : (H.add (.rows false 23 [zrow])).next = H.next + 1 := by simp
  obtain ⟨H1, hH1⟩ : ∃ K, H.add (.rows false 23 [zrow]) = K := ⟨_, rfl⟩
  rw [hH1] at t1 hg1 hn1
  have old : ∀ {H' : Heap}, Turns Z H1 H' → H'.get (.run H.next) = some (.rows false 23 [zrow]) := fun t => (t.same (.run H.next) (by show _ < _; omega) id).trans hg1
  have sto : ∀ {H' : Heap}, Turns Z H1 H' → ∀ {row : List V}, SRow row → ∃ H'', storeAt H' ⟨.run H.next, 0⟩ row = some H'' ∧ loadAt H'' ⟨.run H.next, 0⟩ 23 = some row ∧ Turns Z H H'' := fun {H'} t {row} R => by
    refine ⟨_, storeAt_eq (old t) (r := zrow) (r' := row) rfl R.put, ?_, (t1.trans t).setnew (Nat.le_refl _) _⟩
    rw [loadAt_eq (b := .run H.next) (r := row) (by rw [Heap.get_set, if_pos rfl]) rfl, cut_thin R.thin (by have := R.len; omega)]
    simp [← R.len]
  have hN : 1 ≤ l.length := by cases l with
    | nil => exact absurd rfl hl
    | cons x xs => simp
  have e1 : callS Try.prog S0 lf (n + 7) 19 [.ptr (some ⟨b, 0⟩)] H1 = _ := bench_devs (h.turns t1) hl lf (n + 5)
  have e2 : callS Try.prog S0 lf (n + 7) 31 [.ptr (some ⟨b, 0⟩)] H1 = some (.v (.bool false), H1) := by rw [← hdk]; exact disk.bdark (h.turns t1).at' hl lf (n + 5)
  have b0 : ((l.length : Int) == 0) = false := by simp; exact hl
  have w1 : IntKind.i64.wrap ((l.length : Int) - 1) = (l.length : Int) - 1 := wrap_i64 (by omega)
  obtain ⟨F1, sf1, lf1, tf1⟩ := sto (Turns.refl Z H1) SRow.z
  have wz := SRow.z.width
  have hzH := hH1
  rw [hzr] at hzH
  have sf1' := sf1
  have lf1' := lf1
  have wz' := wz
  rw [hzr] at sf1' lf1' wz'
  refine ret_call rfl c32_eq ?_
  by_cases hd0 : d < 0
  · simp only [c32, hzH, e1, e2, b0, hd0, sf1', lf1', wz', sy, tup, ↓reduceIte, Nat.reduceEqDiff, Nat.reduceAdd, Nat.reduceSub, Nat.reduceMul, Nat.reduceDiv, Nat.reduceMod, Nat.reduceLeDiff, Int.reduceBEq, reduceCtorEq]
    exact ⟨trivial, .inr trivial, _, rfl, tf1, .inl ⟨by unfold gC; rw [if_pos (.inl hd0)], rfl⟩⟩
  by_cases hd1 : (l.length : Int) - 1 ≤ d
  · simp only [c32, hzH, e1, e2, b0, hd0, w1, hd1, sf1', lf1', wz', sy, tup, ↓reduceIte, Nat.reduceEqDiff, Nat.reduceAdd, Nat.reduceSub, Nat.reduceMul, Nat.reduceDiv, Nat.reduceMod, Nat.reduceLeDiff, Int.reduceBEq, reduceCtorEq]
    exact ⟨trivial, .inr trivial, _, rfl, tf1, .inl ⟨by unfold gC; rw [if_pos (.inr hd1)], rfl⟩⟩
  obtain ⟨v2, H2, e3, rfl, t2⟩ := disk.bread_all (h.turns t1) hl hg d 0 hlf (n + 3)
  change callS Try.prog S0 lf (n + 7) 49 _ _ = _ at e3
  have u3 : Turns Z H2 ((H2.add (.rows false 64 [[.blk 0]])).set (.run H2.next) (.rows false 64 [[.blk (B.read d 0)]])) := (Turns.add Z H2 _).setnew (Nat.le_refl _) _
  have g3 : ((H2.add (.rows false 64 [[.blk 0]])).set (.run H2.next) (.rows false 64 [[.blk (B.read d 0)]])).get (.run H2.next) = some (.rows false 64 [[.blk (B.read d 0)]]) := by rw [Heap.get_set, if_pos rfl]
  have n3 : ((H2.add (.rows false 64 [[.blk 0]])).set (.run H2.next) (.rows false 64 [[.blk (B.read d 0)]])).next = H2.next + 1 := by simp
  obtain ⟨H3, hH3⟩ : ∃ K, (H2.add (.rows false 64 [[.blk 0]])).set (.run H2.next) (.rows false 64 [[.blk (B.read d 0)]]) = K := ⟨_, rfl⟩
  rw [hH3] at u3 g3 n3
  have t3 := t2.trans u3
  obtain ⟨v4, H4, e4, rfl, t4⟩ := disk.bread_all (h.turns (t1.trans t3)) hl hg d 1 hlf (n + 3)
  change callS Try.prog S0 lf (n + 7) 49 _ _ = _ at e4
  have u5 : Turns Z H4 ((H4.add (.rows false 64 [[.blk 0]])).set (.run H4.next) (.rows false 64 [[.blk (B.read d 1)]])) := (Turns.add Z H4 _).setnew (Nat.le_refl _) _
  have g5 : ((H4.add (.rows false 64 [[.blk 0]])).set (.run H4.next) (.rows false 64 [[.blk (B.read d 1)]])).get (.run H4.next) = some (.rows false 64 [[.blk (B.read d 1)]]) := by rw [Heap.get_set, if_pos rfl]
  obtain ⟨H5, hH5⟩ : ∃ K, (H4.add (.rows false 64 [[.blk 0]])).set (.run H4.next) (.rows false 64 [[.blk (B.read d 1)]]) = K := ⟨_, rfl⟩
  rw [hH5] at u5 g5
  have t5 := (t3.trans t4).trans u5
  have g35 := ((t4.trans u5).same (.run H2.next) (by show _ < _; omega) id).trans g3
  have la : loadAt H5 ⟨.run H2.next, 0⟩ 64 = some [.blk (B.read d 0)] := by rw [loadAt_eq g35 rfl]; exact Dp _ _
  have lb : loadAt H5 ⟨.run H4.next, 0⟩ 64 = some [.blk (B.read d 1)] := by rw [loadAt_eq g5 rfl]; exact Dp _ _
  obtain ⟨F2, sf2, lf2, tf2⟩ := sto t5 SRow.z
  rw [hzr] at sf2 lf2
  have hgd : gC B l.length d = if B.rc d 0 ≠ 0 ∨ B.rc d 1 ≠ 0 then none else match newC (B.read d 0) (B.read d 1) with
    | none => none
    | some C => (by classical exact if sealN C ≤ 2305843009213693952 ∧ fitsC l.length B.sectors C then some C else none) := by
    unfold gC; rw [if_neg (by omega)]
  by_cases hr0' : ¬ B.rc d 0 = 0
  · have hr0 : B.rc d 0 ≠ 0 := hr0'
    have z0 : (B.rc d 0 == 0) = false := by simpa using hr0
    simp only [c32, hzH, e1, e2, b0, hd0, w1, hd1, e3, hH3, e4, hH5, z0, sf2, lf2, wz', sy, tup, ↓reduceIte, Nat.reduceEqDiff, Nat.reduceAdd, Nat.reduceSub, Nat.reduceMul, Nat.reduceDiv, Nat.reduceMod, Nat.reduceLeDiff, Int.reduceBEq, reduceCtorEq]
    exact ⟨trivial, .inr trivial, _, rfl, tf2, .inl ⟨by rw [hgd, if_pos (.inl hr0)], rfl⟩⟩
  have hr0 : B.rc d 0 = 0 := Classical.byContradiction hr0'
  have z0 : (B.rc d 0 == 0) = true := by simpa using hr0
  by_cases hr1' : ¬ B.rc d 1 = 0
  · have hr1 : B.rc d 1 ≠ 0 := hr1'
    have z1 : (B.rc d 1 == 0) = false := by simpa using hr1
    simp only [c32, hzH, e1, e2, b0, hd0, w1, hd1, e3, hH3, e4, hH5, z0, z1, sf2, lf2, wz', sy, tup, ↓reduceIte, Nat.reduceEqDiff, Nat.reduceAdd, Nat.reduceSub, Nat.reduceMul, Nat.reduceDiv, Nat.reduceMod, Nat.reduceLeDiff, Int.reduceBEq, reduceCtorEq]
    exact ⟨trivial, .inr trivial, _, rfl, tf2, .inl ⟨by rw [hgd, if_pos (.inr hr1)], rfl⟩⟩
  have hr1 : B.rc d 1 = 0 := Classical.byContradiction hr1'
  have z1 : (B.rc d 1 == 0) = true := by simpa using hr1
  rw [if_neg (by simp [hr0, hr1])] at hgd
  obtain ⟨v6, H6, e6, t6, hv⟩ := newest2_ok H5 (B.read d 0) (B.read d 1) (lf := lf) (by omega) n
  rcases hv with ⟨hC, rfl⟩ | ⟨C, hC, rfl⟩
  · obtain ⟨K7, s7, _, t7, _⟩ := SRow.z.new H6
    obtain ⟨F3, sf3, lf3, tf3⟩ := sto ((t5.trans t6).trans t7) SRow.z
    rw [hzr] at sf3 lf3 s7
    rw [hzr] at e6 ⊢
    simp only [c32, hzH, e1, e2, b0, hd0, w1, hd1, e3, hH3, e4, hH5, z0, z1, la, lb, e6, s7, sf3, lf3, wz', sy, tup, ↓reduceIte, Nat.reduceEqDiff, Nat.reduceAdd, Nat.reduceSub, Nat.reduceMul, Nat.reduceDiv, Nat.reduceMod, Nat.reduceLeDiff, Int.reduceBEq, reduceCtorEq]
    exact ⟨trivial, .inr trivial, _, rfl, tf3, .inl ⟨by rw [hgd, hC], rfl⟩⟩
  · have hE := (newC_ok hC).1
    obtain ⟨_, hS⟩ := isSup_of hE
    have hmay := hS.2.1.2.2.2.1
    obtain ⟨K7, s7, g7, t7, n7⟩ := (SRow.s (gSt_len C) (fld C 0 8) (fld C 13 1) (fld C 8 1) (fld C 9 2) (fld C 11 2) (fld C 18 2) (((fld C 20 1 : Nat) : Int) == 1)).new H6
    obtain ⟨H7, hH7⟩ : ∃ K, H6.add (.rows false 23 [zrow]) = K := ⟨_, rfl⟩
    rw [hH7] at s7
    rw [hzr] at hH7
    have S7 : SupAt K7 (.run H6.next) (fld C 0 8) (fld C 13 1) (fld C 8 1) (fld C 9 2) (fld C 11 2) (gSt C) (fld C 18 2) (((fld C 20 1 : Nat) : Int) == 1) := ⟨g7, gSt_len C⟩
    have lg : loadAt K7 ⟨.run H6.next, 2⟩ 3 = some [.int .i64 (fld C 8 1), .int .i64 (fld C 9 2), .int .i64 (fld C 11 2)] := by rw [sup_cut S7 (by omega) (by omega)]; rfl
    have wS := s_width (gSt_len C) (fld C 0 8) (fld C 13 1) (fld C 8 1) (fld C 9 2) (fld C 11 2) (fld C 18 2) (((fld C 20 1 : Nat) : Int) == 1)
    have hgd : gC B l.length d = (by classical exact if sealN C ≤ 2305843009213693952 ∧ fitsC l.length B.sectors C then some C else none) := by rw [hgd, hC]
    rw [gSup_row] at e6
    by_cases hbig : 2305843009213693952 < sealN C
    · have hbig' : (2305843009213693952 : Int) < ((sealN C : Nat) : Int) := by omega
      obtain ⟨F3, sf3, lf3, tf3⟩ := sto ((t5.trans t6).trans t7) SRow.z
      rw [hzr] at sf3 lf3
      simp only [c32, hzH, e1, e2, b0, hd0, w1, hd1, e3, hH3, e4, hH5, z0, z1, la, lb, e6, hH7, s7, wS, hbig', sf3, lf3, wz', sy, tup, ↓reduceIte, Nat.reduceEqDiff, Nat.reduceAdd, Nat.reduceSub, Nat.reduceMul, Nat.reduceDiv, Nat.reduceMod, Nat.reduceLeDiff, Int.reduceBEq, reduceCtorEq]
      exact ⟨trivial, .inr trivial, _, rfl, tf3, .inl ⟨by rw [hgd, if_neg (by omega)], by rw [hzr]⟩⟩
    · have hbig' : ¬ (2305843009213693952 : Int) < ((sealN C : Nat) : Int) := by omega
      have T7 := t1.trans ((t5.trans t6).trans t7)
      obtain ⟨v8, H8, e8, t8, z, rfl, hz⟩ := gfits_ok K7 (b := b) hmay (N := l.length) (sec := B.sectors) lf (n + 3) (by omega)
        (fun H' t => bench_devs (h.turns (T7.trans t)) hl lf (n + 4)) (fun H' dd t => disk.bsectors_all (h.turns (T7.trans t)) hl hg dd lf (n + 3))
      change callS Try.prog S0 lf (n + 7) 51 _ _ = _ at e8
      unfold geo at e8
      cases z with
      | false =>
        obtain ⟨F3, sf3, lf3, tf3⟩ := sto (((t5.trans t6).trans t7).trans t8) SRow.z
        rw [hzr] at sf3 lf3
        simp only [c32, hzH, e1, e2, b0, hd0, w1, hd1, e3, hH3, e4, hH5, z0, z1, la, lb, e6, hH7, s7, wS, hbig', lg, e8, sf3, lf3, wz', sy, tup, ↓reduceIte, Nat.reduceEqDiff, Nat.reduceAdd, Nat.reduceSub, Nat.reduceMul, Nat.reduceDiv, Nat.reduceMod, Nat.reduceLeDiff, Int.reduceBEq, reduceCtorEq]
        exact ⟨trivial, .inr trivial, _, rfl, tf3, .inl ⟨by rw [hgd, if_neg (fun hh => by have := hz.2 hh.2; cases this)], by rw [hzr]⟩⟩
      | true =>
        have S8 : SupAt H8 (.run H6.next) (fld C 0 8) (fld C 13 1) (fld C 8 1) (fld C 9 2) (fld C 11 2) (gSt C) (fld C 18 2) (((fld C 20 1 : Nat) : Int) == 1) := ⟨(t8.same (.run H6.next) (by show _ < _; omega) id).trans g7, gSt_len C⟩
        have ls := sup_all S8
        obtain ⟨F3, sf3, lf3, tf3⟩ := sto (((t5.trans t6).trans t7).trans t8) (SRow.s (gSt_len C) (fld C 0 8) (fld C 13 1) (fld C 8 1) (fld C 9 2) (fld C 11 2) (fld C 18 2) (((fld C 20 1 : Nat) : Int) == 1))
        simp only [c32, hzH, e1, e2, b0, hd0, w1, hd1, e3, hH3, e4, hH5, z0, z1, la, lb, e6, hH7, s7, wS, hbig', lg, e8, ls, sf3, lf3, sy, tup, ↓reduceIte, Nat.reduceEqDiff, Nat.reduceAdd, Nat.reduceSub, Nat.reduceMul, Nat.reduceDiv, Nat.reduceMod, Nat.reduceLeDiff, Int.reduceBEq, reduceCtorEq]
        rw [endD_ok (by kernel_rfl) (by kernel_rfl)]
        simp only [ls, sf3, lf3, wS, sy, tup, ↓reduceIte, Nat.reduceEqDiff, Nat.reduceAdd, Nat.reduceSub, Nat.reduceMul, Nat.reduceDiv, Nat.reduceMod, Nat.reduceLeDiff, Int.reduceBEq, reduceCtorEq]
        exact ⟨trivial, .inr trivial, _, rfl, tf3, .inr ⟨C, by rw [hgd, if_pos ⟨by omega, hz.1 rfl⟩], rfl⟩⟩
end Go.Proofs.Ytabebpemfinejaa.draft

set_option linter.unusedVariables false
set_option linter.unusedSimpArgs false
set_option maxRecDepth 10000
namespace Go.Proofs.Ytabebpemfinejaa.draft
open Go.Am
noncomputable def c28 : CFn := ⟨[.cell (pp 4) 21 .ag, .tmp (pp 5)],
 .seq (.reg [
 qo 2 (.m (boxF 21 (tt 0))) [pp 0],
 qo 4 (.m (allocF 21 [.int .i64 0, .int .i64 0, .int .i64 0, .int .u8 0, .int .u8 0, .int .u8 0, .int .u8 0, .int .u8 0, .int .u8 0, .int .u8 0, .int .u8 0, .int .u8 0, .int .u8 0, .int .u8 0, .int .u8 0, .int .u8 0, .int .u8 0, .int .u8 0, .int .u8 0, .int .i64 0, .bool false])) [],
 qo 5 (.p (S.get (.c (.bool false)))) []]) (
 .seq (.seq (.reg [
 qo 7 (.r (loadF (tt 2) 21 .ag)) [pp 2],
 mv 8 1,
 qo 9 (.c (callF (ff 48) [(tt 7), (tt 8)])) [pp 7, pp 8],
 qo 10 (.p (unF .not (tt 9))) [pp 9]]) (
 .cond (tt 10) (.seq (.reg [
 qo 11 (.r (loadF (tt 2) 21 .ag)) [pp 2],
 qn (.a (storeF (tt 4) (tt 11) 21)) [pp 4, pp 11],
 qo 5 (.p (S.get (.c (.bool false)))) []]) (
 .ret)) (.skip))) (
 .seq (.reg [
 mv 12 1,
 qo 13 (.p (faddrF (tt 2) 3)) [pp 2],
 qo 14 (.p (iaddrAF (tt 13) (tt 12) 16 1)) [pp 13, pp 12],
 qo 15 (.r (loadF (tt 14) 1 .sc)) [pp 14],
 mv 6 15]) (
 .seq (.seq (.reg [
 mv 16 6,
 qo 17 (.p (eqcF false false [.int .u8] (tt 16) (.c (.int .u8 2)))) [pp 16]]) (
 .cond (tt 17) (.reg [
 qo 18 (.p (faddrF (tt 2) 19)) [pp 2],
 qn (.a (storeF (tt 18) (ii 0) 1)) [pp 18]]) (.skip))) (
 .seq (.reg [
 mv 19 1,
 qo 20 (.p (faddrF (tt 2) 3)) [pp 2],
 qo 21 (.p (iaddrAF (tt 20) (tt 19) 16 1)) [pp 20, pp 19],
 qn (.a (storeF (tt 21) (.c (.int .u8 1)) 1)) [pp 21]]) (
 .seq (.reg [
 qo 22 (.r (loadF (tt 2) 21 .ag)) [pp 2],
 mv 23 6,
 qo 24 (.p (eqcF true false [.int .u8] (tt 23) (.c (.int .u8 1)))) [pp 23],
 qn (.a (storeF (tt 4) (tt 22) 21)) [pp 4, pp 22],
 mv 5 24]) (
 .ret))))))⟩
theorem c28_eq : fnOf Try.prog 28 = some c28 := by kernel_rfl
noncomputable def c48 : CFn := ⟨[.tmp (pp 4)],
 .seq (.reg [
 qo 2 (.m (boxF 21 (tt 0))) [pp 0],
 qo 4 (.p (S.get (.c (.bool false)))) []]) (
 .seq (.reg [
 qo 5 (.r (loadF (tt 2) 21 .ag)) [pp 2],
 qo 6 (.c (callF (ff 20) [(tt 5)])) [pp 5],
 mv 7 6,
 mg 8 1 7 true,
 qg 9 (.p (arF .geq (tt 8) (ii 0))) 7 true [pp 8],
 qo 10 (.p (pickF (tt 7) (tt 9) (.c (.bool false)))) [pp 7, pp 9],
 mv 11 10,
 mg 12 1 11 true,
 qg 13 (.p (faddrF (tt 2) 0)) 11 true [pp 2],
 qg 14 (.p (faddrF (tt 13) 0)) 11 true [pp 13],
 qg 15 (.r (loadF (tt 14) 1 .sc)) 11 true [pp 14],
 qg 16 (.p (arF .lss (tt 12) (tt 15))) 11 true [pp 12, pp 15],
 qo 17 (.p (pickF (tt 11) (tt 16) (.c (.bool false)))) [pp 11, pp 16],
 mv 4 17]) (
 .ret))⟩
theorem c48_eq : fnOf Try.prog 48 = some c48 := by kernel_rfl
def loseC (S : List Nat) (c : Int) (i : Nat) : Int := if S.getD i 0 = 2 then 0 else c
theorem cnt_set : ∀ (S : List Nat) (i : Nat), i < S.length → cnt (S.set i 1) 2 + (if S.getD i 0 = 2 then 1 else 0) = cnt S 2
  | y :: S, 0, _ => by
    show cnt (1 :: S) 2 + (if y = 2 then 1 else 0) = cnt (y :: S) 2
    rw [cnt_cons, cnt_cons, if_neg (by decide : ¬ (1 : Nat) = 2)]
    omega
  | y :: S, i + 1, h => by
    show cnt (y :: S.set i 1) 2 + (if S.getD i 0 = 2 then 1 else 0) = cnt (y :: S) 2
    have := cnt_set S i (by simpa using h)
    rw [cnt_cons, cnt_cons]
    omega
  | [], i, h => by simp at h
theorem lose_fine {m s r c : Int} {S : List Nat} {i : Nat} (hS : S.length = 16) (h : fine m s r S c) (hi : (i : Int) < m) : fine m s r (S.set i 1) (loseC S c i) := by
  obtain ⟨h1, h2, h3, h4, h5, h6⟩ := h
  obtain ⟨b1, b2, b3⟩ := may_t h1
  have hi16 : i < S.length := by omega
  have hc := cnt_set S i hi16
  refine ⟨h1, fun j hj x hx => ?_, ?_, ?_, ?_, ?_⟩
  · by_cases e : j = i
    · subst e
      rw [List.getElem?_set_self hi16] at hx
      cases hx
      exact ⟨by omega, fun hm => by omega⟩
    · rw [List.getElem?_set_ne (Ne.symm e)] at hx
      exact h2 j hj x hx
  · split at hc <;> omega
  · unfold loseC; split <;> omega
  · unfold loseC; split <;> omega
  · unfold loseC
    by_cases e : S.getD i 0 = 2
    · rw [if_pos e]; exact .inr rfl
    · rw [if_neg e] at hc ⊢
      rw [Nat.add_zero] at hc
      rw [hc]; exact h6
def zro : List V := [.int .i64 0, .int .i64 0, .int .i64 0, .int .u8 0, .int .u8 0, .int .u8 0, .int .u8 0, .int .u8 0, .int .u8 0, .int .u8 0, .int .u8 0, .int .u8 0, .int .u8 0, .int .u8 0, .int .u8 0, .int .u8 0, .int .u8 0, .int .u8 0, .int .u8 0, .int .i64 0, .bool false]
theorem put_zro {S : List Nat} (hS : S.length = 16) (m s r c : Int) (g : Bool) : Go.Am.put zro 0 (rcells m s r S c g) = some (rcells m s r S c g) := by
  match S, hS with
  | [_, _, _, _, _, _, _, _, _, _, _, _, _, _, _, _], _ => rfl
theorem rset_c {S : List Nat} (hS : S.length = 16) (m s r c c' : Int) (g : Bool) : (rcells m s r S c g).set 19 (.int .i64 c') = rcells m s r S c' g := by
  match S, hS with
  | [_, _, _, _, _, _, _, _, _, _, _, _, _, _, _, _], _ => rfl
theorem rset_s {S : List Nat} (hS : S.length = 16) (m s r c : Int) (g : Bool) {i : Nat} (hi : i < 16) (x : Nat) : (rcells m s r S c g).set (3 + i) (.int .u8 (x : Int)) = rcells m s r (S.set i x) c g := by
  unfold rcells sts
  rw [List.set_append, if_neg (by simp), show 3 + i - [V.int .i64 m, .int .i64 s, .int .i64 r].length = i from by simp, List.set_append, if_pos (by rw [List.length_map]; omega)]
  simp [List.map_set]
theorem member_ok (H : Heap) {m s r c : Int} {g : Bool} {S : List Nat} (hS : S.length = 16) (hf : fine m s r S c) {i : Nat} (hi : (i : Int) < m) (lf n : Nat) (hlf : 17 < lf) : ret (callS Try.prog S0 lf (n + 4) 48 [ros m s r S c g, .int .i64 (i : Int)] H) fun v H' => v = .bool true ∧ Turns Z H H' := by
  have t1 := Turns.add Z H (.rows false 21 [rcells m s r S c g])
  have hg : (H.add (.rows false 21 [rcells m s r S c g])).get (.run H.next) = some (.rows false 21 [rcells m s r S c g]) := by rw [Heap.get_add, if_pos rfl]
  have og : (H.add (.rows false 21 [rcells m s r S c g])).Old (.run H.next) := by show _ < _; simp
  have hr : ∀ {H' : Heap}, Turns Z (H.add (.rows false 21 [rcells m s r S c g])) H' → RosAt H' (.run H.next) m s r S c g := fun t => ⟨(t.same _ og id).trans hg, hS⟩
  have hw := r_width hS m s r c g
  have la := ros_all (hr (Turns.refl Z _))
  generalize hH1 : H.add (.rows false 21 [rcells m s r S c g]) = H1 at *
  obtain ⟨v, H2, e2, ⟨z, rfl, hz⟩, t2⟩ := pmay_ok H1 (m := m) (s := s) (r := r) (c := c) (g := g) hS lf n hlf
  have hz := hz.2 hf
  subst hz
  unfold ros at e2
  have lm := ros_m (hr t2)
  have h0 : (0 : Int) ≤ (i : Int) := by omega
  refine ret_call rfl c48_eq ?_
  simp only [c48, ros, hw, hH1, la, e2, lm, h0, hi, sy, tup, ↓reduceIte, Nat.reduceEqDiff, Nat.reduceAdd, Nat.reduceSub, Nat.reduceMul, Nat.reduceDiv, Nat.reduceMod, Nat.reduceLeDiff, Int.reduceBEq, reduceCtorEq]
  exact ⟨trivial, .inr trivial, _, rfl, rfl, t1.trans t2⟩
theorem lose_at (H : Heap) {m s r c : Int} {g : Bool} {S : List Nat} (hS : S.length = 16) (hf : fine m s r S c) {i : Nat} (hi : (i : Int) < m) (hiS : i < S.length) (lf n : Nat) (hlf : 17 < lf) : ret (callS Try.prog S0 lf (n + 5) 28 [ros m s r S c g, .int .i64 (i : Int)] H) fun v H' => v = .tuple [ros m s r (S.set i 1) (loseC S c i) g, .bool (!(((S[i] : Nat) : Int) == 1))] ∧ Turns Z H H' := by
  obtain ⟨bm, bs, br⟩ := may_t hf.1
  have hi16 : i < 16 := by omega
  have t1 := Turns.add Z H (.rows false 21 [rcells m s r S c g])
  have t2 := t1.addm (.rows false 21 [zro])
  have hg1 : (H.add (.rows false 21 [rcells m s r S c g])).get (.run H.next) = some (.rows false 21 [rcells m s r S c g]) := by rw [Heap.get_add, if_pos rfl]
  have hg2 : ((H.add (.rows false 21 [rcells m s r S c g])).add (.rows false 21 [zro])).get (.run H.next) = some (.rows false 21 [rcells m s r S c g]) := by
    rw [Heap.get_add, if_neg (run_ne (by simp)), hg1]
  have hg3 : ((H.add (.rows false 21 [rcells m s r S c g])).add (.rows false 21 [zro])).get (.run (H.next + 1)) = some (.rows false 21 [zro]) := by
    rw [Heap.get_add, if_pos (by simp)]
  have hn : ((H.add (.rows false 21 [rcells m s r S c g])).add (.rows false 21 [zro])).next = H.next + 2 := by simp
  have hw := r_width hS m s r c g
  generalize hH2 : (H.add (.rows false 21 [rcells m s r S c g])).add (.rows false 21 [zro]) = H2 at *
  have la := ros_all (H := H2) ⟨hg2, hS⟩
  obtain ⟨v3, H3, e3, rfl, t3⟩ := member_ok H2 (m := m) (s := s) (r := r) (c := c) (g := g) hS hf hi lf n hlf
  unfold ros at e3
  have R3 : RosAt H3 (.run H.next) m s r S c g := ⟨(t3.same (.run H.next) (by show _ < _; omega) id).trans hg2, hS⟩
  have hg33 : H3.get (.run (H.next + 1)) = some (.rows false 21 [zro]) := (t3.same (.run (H.next + 1)) (by show _ < _; omega) id).trans hg3
  have ls := ros_st R3 hi16
  have hget : S.getD i 0 = S[i] := by simp [List.getD, hiS]
  have hle : i + 1 ≤ 16 := hi16
  have hT3 : Turns Z H H3 := t2.trans t3
  have hzro : zro = [.int .i64 0, .int .i64 0, .int .i64 0, .int .u8 0, .int .u8 0, .int .u8 0, .int .u8 0, .int .u8 0, .int .u8 0, .int .u8 0, .int .u8 0, .int .u8 0, .int .u8 0, .int .u8 0, .int .u8 0, .int .u8 0, .int .u8 0, .int .u8 0, .int .u8 0, .int .i64 0, .bool false] := rfl
  rw [hzro] at hH2
  rw [Nat.mul_one] at ls
  have stS : ∀ {K : Heap} {c' : Int}, K.get (.run H.next) = some (.rows false 21 [rcells m s r S c' g]) → storeAt K ⟨.run H.next, 3 + i⟩ [.int .u8 1] = some (K.set (.run H.next) (.rows false 21 [rcells m s r (S.set i 1) c' g])) := fun {K c'} h => by
    have := storeAt_eq h (o := 3 + i) (vs := [.int .u8 1]) (r := rcells m s r S c' g) (r' := rcells m s r (S.set i 1) c' g) (by rw [Nat.div_eq_of_lt (by omega)]; rfl) (by rw [Nat.mod_eq_of_lt (by omega), put_one (r_thin m s r S c' g) (by rw [r_len hS]; omega) rfl]; exact congrArg some (rset_s hS m s r c' g hi16 1))
    rw [Nat.div_eq_of_lt (by omega)] at this
    exact this
  have fin : ∀ {K : Heap} {c' : Int}, K.get (.run H.next) = some (.rows false 21 [rcells m s r S c' g]) → K.get (.run (H.next + 1)) = some (.rows false 21 [zro]) → Turns Z H K → ∃ F, loadAt (K.set (.run H.next) (.rows false 21 [rcells m s r (S.set i 1) c' g])) ⟨.run H.next, 0⟩ 21 = some (rcells m s r (S.set i 1) c' g) ∧ storeAt (K.set (.run H.next) (.rows false 21 [rcells m s r (S.set i 1) c' g])) ⟨.run (H.next + 1), 0⟩ (rcells m s r (S.set i 1) c' g) = some F ∧ loadAt F ⟨.run (H.next + 1), 0⟩ 21 = some (rcells m s r (S.set i 1) c' g) ∧ Turns Z H F := fun {K c'} h1 h2 hT => by
    have hS' : (S.set i 1).length = 16 := by simp [hS]
    have ha : (K.set (.run H.next) (.rows false 21 [rcells m s r (S.set i 1) c' g])).get (.run (H.next + 1)) = some (.rows false 21 [zro]) := by rw [Heap.get_set, if_neg (run_ne (by omega))]; exact h2
    refine ⟨_, ros_all ⟨by rw [Heap.get_set, if_pos rfl], hS'⟩, storeAt_eq ha (r := zro) (r' := rcells m s r (S.set i 1) c' g) rfl (put_zro hS' _ _ _ _ _), ros_all ⟨by rw [Heap.get_set, if_pos rfl]; rfl, hS'⟩, (hT.setnew (Nat.le_refl _) _).setnew (by omega) _⟩
  refine ret_call rfl c28_eq ?_
  by_cases h2 : S[i] = 2
  · have b2 : (((S[i] : Nat) : Int) == 2) = true := by simp [h2]
    have hc' : loseC S c i = 0 := by unfold loseC; rw [hget, if_pos h2]
    rw [hc']
    have st0 : storeAt H3 ⟨.run H.next, 19⟩ [.int .i64 0] = some (H3.set (.run H.next) (.rows false 21 [rcells m s r S 0 g])) := by
      have := storeAt_eq R3.own (o := 19) (vs := [.int .i64 0]) (r := rcells m s r S c g) (r' := rcells m s r S 0 g) rfl (by rw [put_one (r_thin m s r S c g) (by rw [r_len hS]; omega) rfl, rset_c hS])
      exact this
    have gK : (H3.set (.run H.next) (.rows false 21 [rcells m s r S 0 g])).get (.run H.next) = some (.rows false 21 [rcells m s r S 0 g]) := by rw [Heap.get_set, if_pos rfl]
    have st1 := stS gK
    obtain ⟨F, l1, s2, l2, tF⟩ := fin gK (by rw [Heap.get_set, if_neg (run_ne (by omega))]; exact hg33) (hT3.setnew (Nat.le_refl _) _)
    have hw' := r_width (S := S.set i 1) (by simp [hS]) m s r 0 g
    simp only [c28, ros, hw, hH2, la, e3, iaddrAF, hle, ls, b2, st0, st1, l1, s2, l2, hw', Nat.mul_one, sy, tup, ↓reduceIte, Nat.reduceEqDiff, Nat.reduceAdd, Nat.reduceSub, Nat.reduceMul, Nat.reduceDiv, Nat.reduceMod, Nat.reduceLeDiff, Int.reduceBEq, reduceCtorEq]
    exact ⟨trivial, .inr trivial, _, rfl, rfl, tF⟩
  · have b2 : (((S[i] : Nat) : Int) == 2) = false := by simp; omega
    have hc' : loseC S c i = c := by unfold loseC; rw [hget, if_neg h2]
    rw [hc']
    have st1 := stS R3.own
    obtain ⟨F, l1, s2, l2, tF⟩ := fin R3.own hg33 hT3
    have hw' := r_width (S := S.set i 1) (by simp [hS]) m s r c g
    simp only [c28, ros, hw, hH2, la, e3, iaddrAF, hle, ls, b2, st1, l1, s2, l2, hw', Nat.mul_one, sy, tup, ↓reduceIte, Nat.reduceEqDiff, Nat.reduceAdd, Nat.reduceSub, Nat.reduceMul, Nat.reduceDiv, Nat.reduceMod, Nat.reduceLeDiff, Int.reduceBEq, reduceCtorEq]
    exact ⟨trivial, .inr trivial, _, rfl, rfl, tF⟩
theorem lose_ok (H : Heap) {m s r c : Int} {g : Bool} {S : List Nat} (hS : S.length = 16) (hf : fine m s r S c) {i : Nat} (hi : (i : Int) < m) (lf n : Nat) (hlf : 17 < lf) : ret (callS Try.prog S0 lf (n + 5) 28 [ros m s r S c g, .int .i64 (i : Int)] H) fun v H' => (∃ z : Bool, v = .tuple [ros m s r (S.set i 1) (loseC S c i) g, .bool z]) ∧ Turns Z H H' := by
  have hiS : i < S.length := by have := (may_t hf.1).1; omega
  obtain ⟨v, H', e, rfl, t⟩ := lose_at H hS hf hi hiS lf n hlf (g := g)
  exact ⟨_, H', e, ⟨_, rfl⟩, t⟩
end Go.Proofs.Ytabebpemfinejaa.draft

set_option linter.unusedVariables false
set_option linter.unusedSimpArgs false
set_option maxRecDepth 10000
namespace Go.Proofs.Ytabebpemfinejaa.draft
open Go.Am
noncomputable def c11_l0 : C := .seq (.reg [
 qo 59 (.p (arF .lss (tt 58) (tt 57))) [pp 58, pp 57]]) (
 .seq (.cond (tt 59) (.skip) (.exit 3)) (
 .seq (.block 4 (.seq (.reg [
 mv 60 58,
 mv 9 60]) (
 .seq (.reg [
 mv 62 0,
 mv 63 9,
 qo 64 (.c (callF (ff 32) [(tt 62), (tt 63)])) [pp 62, pp 63],
 mv 61 64,
 qo 65 (.p (extF (tt 61) 0)) [pp 61],
 qo 66 (.p (extF (tt 61) 1)) [pp 61],
 qo 67 (.p (extF (tt 61) 2)) [pp 61],
 qo 11 (.m (allocF 23 [.int .u64 0, .int .i64 0, .int .i64 0, .int .i64 0, .int .i64 0, .int .u8 0, .int .u8 0, .int .u8 0, .int .u8 0, .int .u8 0, .int .u8 0, .int .u8 0, .int .u8 0, .int .u8 0, .int .u8 0, .int .u8 0, .int .u8 0, .int .u8 0, .int .u8 0, .int .u8 0, .int .u8 0, .int .i64 0, .bool false])) [],
 mv 10 65,
 qn (.a (storeF (tt 11) (tt 66) 23)) [pp 11, pp 66],
 mv 12 67]) (
 .seq (.reg [
 mv 68 12,
 qo 69 (.p (eqcF true false [.int .i64] (tt 68) (ii 0))) [pp 68],
 mv 70 69,
 qg 71 (.p (faddrF (tt 11) 0)) 70 false [pp 11],
 qg 72 (.r (loadF (tt 71) 1 .sc)) 70 false [pp 71],
 qg 73 (.p (faddrF (tt 4) 1)) 70 false [pp 4],
 qg 74 (.r (loadF (tt 73) 1 .sc)) 70 false [pp 73],
 qg 75 (.p (eqcF true false [.int .u64] (tt 72) (tt 74))) 70 false [pp 72, pp 74],
 qo 76 (.p (pickF (tt 70) (.c (.bool true)) (tt 75))) [pp 70, pp 75],
 mv 77 76,
 qg 78 (.p (faddrF (tt 11) 2)) 77 false [pp 11],
 qg 79 (.p (faddrF (tt 78) 0)) 77 false [pp 78],
 qg 80 (.r (loadF (tt 79) 3 .ag)) 77 false [pp 79],
 qg 81 (.p (faddrF (tt 4) 2)) 77 false [pp 4],
 qg 82 (.p (faddrF (tt 81) 0)) 77 false [pp 81],
 qg 83 (.r (loadF (tt 82) 3 .ag)) 77 false [pp 82],
 qg 84 (.p (eqcF true true [.int .i64, .int .i64, .int .i64] (tt 80) (tt 83))) 77 false [pp 80, pp 83],
 qo 85 (.p (pickF (tt 77) (.c (.bool true)) (tt 84))) [pp 77, pp 84],
 mv 86 85,
 qg 87 (.p (faddrF (tt 11) 1)) 86 false [pp 11],
 qg 88 (.r (loadF (tt 87) 1 .sc)) 86 false [pp 87],
 mg 89 9 86 false,
 qg 90 (.p (eqcF true false [.int .i64] (tt 88) (tt 89))) 86 false [pp 88, pp 89],
 qo 91 (.p (pickF (tt 86) (.c (.bool true)) (tt 90))) [pp 86, pp 90]]) (
 .cond (tt 91) (.reg [
 qo 93 (.p (faddrF (tt 4) 2)) [pp 4],
 qo 94 (.r (loadF (tt 93) 21 .ag)) [pp 93],
 mv 95 9,
 qo 96 (.c (callF (ff 28) [(tt 94), (tt 95)])) [pp 94, pp 95],
 mv 92 96,
 qo 97 (.p (extF (tt 92) 0)) [pp 92],
 qo 98 (.p (extF (tt 92) 1)) [pp 92],
 qo 99 (.p (faddrF (tt 4) 2)) [pp 4],
 qn (.a (storeF (tt 99) (tt 97) 21)) [pp 99, pp 97]]) (.skip)))))) (
 .reg [
 qo 100 (.p (arF .add (tt 58) (ii 1))) [pp 58],
 mv 58 100])))
noncomputable def c11_l1 : C := .seq (.reg [
 qo 26 (.p (arF .lss (tt 25) (tt 24))) [pp 25, pp 24]]) (
 .seq (.cond (tt 26) (.skip) (.exit 1)) (
 .seq (.block 2 (.seq (.reg [
 mv 27 25,
 mv 5 27]) (
 .seq (.reg [
 mv 29 0,
 mv 30 5,
 qo 31 (.c (callF (ff 32) [(tt 29), (tt 30)])) [pp 29, pp 30],
 mv 28 31,
 qo 32 (.p (extF (tt 28) 0)) [pp 28],
 qo 33 (.p (extF (tt 28) 1)) [pp 28],
 qo 34 (.p (extF (tt 28) 2)) [pp 28],
 qo 7 (.m (allocF 23 [.int .u64 0, .int .i64 0, .int .i64 0, .int .i64 0, .int .i64 0, .int .u8 0, .int .u8 0, .int .u8 0, .int .u8 0, .int .u8 0, .int .u8 0, .int .u8 0, .int .u8 0, .int .u8 0, .int .u8 0, .int .u8 0, .int .u8 0, .int .u8 0, .int .u8 0, .int .u8 0, .int .u8 0, .int .i64 0, .bool false])) [],
 mv 6 32,
 qn (.a (storeF (tt 7) (tt 33) 23)) [pp 7, pp 33],
 mv 8 34]) (
 .seq (.seq (.reg [
 mv 35 8,
 qo 36 (.p (eqcF true false [.int .i64] (tt 35) (ii 0))) [pp 35],
 mv 37 36,
 mg 38 6 37 false,
 qg 39 (.p (faddrF (tt 4) 0)) 37 false [pp 4],
 qg 40 (.r (loadF (tt 39) 1 .sc)) 37 false [pp 39],
 qg 41 (.p (arF .leq (tt 38) (tt 40))) 37 false [pp 38, pp 40],
 qo 42 (.p (pickF (tt 37) (.c (.bool true)) (tt 41))) [pp 37, pp 41]]) (
 .cond (tt 42) (.exit 2) (.skip))) (
 .reg [
 mv 43 6,
 qo 44 (.p (faddrF (tt 7) 0)) [pp 7],
 qo 45 (.r (loadF (tt 44) 1 .sc)) [pp 44],
 qo 46 (.p (faddrF (tt 7) 2)) [pp 7],
 qo 47 (.r (loadF (tt 46) 21 .ag)) [pp 46],
 qo 48 (.p (buildF [.int .u64 0, .int .u64 0, .int .i64 0, .int .i64 0, .int .i64 0, .int .u8 0, .int .u8 0, .int .u8 0, .int .u8 0, .int .u8 0, .int .u8 0, .int .u8 0, .int .u8 0, .int .u8 0, .int .u8 0, .int .u8 0, .int .u8 0, .int .u8 0, .int .u8 0, .int .u8 0, .int .u8 0, .int .i64 0, .bool false] .ag [(0, 1, (tt 43)), (1, 1, (tt 45)), (2, 21, (tt 47))])) [pp 43, pp 45, pp 47],
 qn (.a (storeF (tt 4) (tt 48) 23)) [pp 4, pp 48]]))))) (
 .reg [
 qo 49 (.p (arF .add (tt 25) (ii 1))) [pp 25],
 mv 25 49])))
noncomputable def c11 : CFn := ⟨[.cell (pp 2) 23 .ag, .tmp (pp 3)],
 .seq (.reg [
 qo 2 (.m (allocF 23 [.int .u64 0, .int .u64 0, .int .i64 0, .int .i64 0, .int .i64 0, .int .u8 0, .int .u8 0, .int .u8 0, .int .u8 0, .int .u8 0, .int .u8 0, .int .u8 0, .int .u8 0, .int .u8 0, .int .u8 0, .int .u8 0, .int .u8 0, .int .u8 0, .int .u8 0, .int .u8 0, .int .u8 0, .int .i64 0, .bool false])) [],
 qo 3 (.p (S.get (ii 0))) []]) (
 .scope (.seq (.block 0 (.seq (.reg [
 mv 14 0,
 qo 15 (.c (callF (ff 19) [(tt 14)])) [pp 14],
 qo 16 (.p (eqcF false false [.int .i64] (tt 15) (ii 0))) [pp 15],
 mv 13 16]) (
 .cond (tt 13) (.seq (.reg [
 qo 17 (.p (buildF [.int .u64 0, .int .u64 0, .int .i64 0, .int .i64 0, .int .i64 0, .int .u8 0, .int .u8 0, .int .u8 0, .int .u8 0, .int .u8 0, .int .u8 0, .int .u8 0, .int .u8 0, .int .u8 0, .int .u8 0, .int .u8 0, .int .u8 0, .int .u8 0, .int .u8 0, .int .u8 0, .int .u8 0, .int .i64 0, .bool false] .ag [])) [],
 qn (.a (storeF (tt 2) (tt 17) 23)) [pp 2, pp 17],
 qo 3 (.p (S.get (ii 1))) []]) (
 .ret)) (.seq (.reg [
 mv 19 0,
 qo 20 (.c (callF (ff 31) [(tt 19)])) [pp 19],
 mv 18 20]) (
 .cond (tt 18) (.seq (.reg [
 qo 21 (.p (buildF [.int .u64 0, .int .u64 0, .int .i64 0, .int .i64 0, .int .i64 0, .int .u8 0, .int .u8 0, .int .u8 0, .int .u8 0, .int .u8 0, .int .u8 0, .int .u8 0, .int .u8 0, .int .u8 0, .int .u8 0, .int .u8 0, .int .u8 0, .int .u8 0, .int .u8 0, .int .u8 0, .int .u8 0, .int .i64 0, .bool false] .ag [])) [],
 qn (.a (storeF (tt 2) (tt 21) 23)) [pp 2, pp 21],
 qo 3 (.p (S.get (ii 8))) []]) (
 .ret)) (.skip)))))) (
 .seq (.reg [
 qo 4 (.m (allocF 23 [.int .u64 0, .int .u64 0, .int .i64 0, .int .i64 0, .int .i64 0, .int .u8 0, .int .u8 0, .int .u8 0, .int .u8 0, .int .u8 0, .int .u8 0, .int .u8 0, .int .u8 0, .int .u8 0, .int .u8 0, .int .u8 0, .int .u8 0, .int .u8 0, .int .u8 0, .int .u8 0, .int .u8 0, .int .i64 0, .bool false])) []]) (
 .seq (.skip) (
 .seq (.seq (.reg [
 mv 22 0,
 qo 23 (.c (callF (ff 19) [(tt 22)])) [pp 22],
 qo 24 (.p (arF .sub (tt 23) (ii 1))) [pp 23],
 qo 25 (.p (S.get (ii 0))) []]) (
 .block 1 (.loop c11_l1))) (
 .seq (.seq (.reg [
 qo 50 (.p (faddrF (tt 4) 0)) [pp 4],
 qo 51 (.r (loadF (tt 50) 1 .sc)) [pp 50],
 qo 52 (.p (eqcF false false [.int .u64] (tt 51) (.c (.int .u64 0)))) [pp 51]]) (
 .cond (tt 52) (.seq (.reg [
 qo 53 (.p (buildF [.int .u64 0, .int .u64 0, .int .i64 0, .int .i64 0, .int .i64 0, .int .u8 0, .int .u8 0, .int .u8 0, .int .u8 0, .int .u8 0, .int .u8 0, .int .u8 0, .int .u8 0, .int .u8 0, .int .u8 0, .int .u8 0, .int .u8 0, .int .u8 0, .int .u8 0, .int .u8 0, .int .u8 0, .int .i64 0, .bool false] .ag [])) [],
 qn (.a (storeF (tt 2) (tt 53) 23)) [pp 2, pp 53],
 qo 3 (.p (S.get (ii 7))) []]) (
 .ret)) (.skip))) (
 .seq (.seq (.reg [
 qo 54 (.p (faddrF (tt 4) 2)) [pp 4],
 qo 55 (.p (faddrF (tt 54) 0)) [pp 54],
 qo 56 (.p (faddrF (tt 55) 0)) [pp 55],
 qo 57 (.r (loadF (tt 56) 1 .sc)) [pp 56],
 qo 58 (.p (S.get (ii 0))) []]) (
 .block 3 (.loop c11_l0))) (
 .seq (.reg [
 qo 101 (.r (loadF (tt 4) 23 .ag)) [pp 4],
 qn (.a (storeF (tt 2) (tt 101) 23)) [pp 2, pp 101],
 qo 3 (.p (S.get (ii 0))) []]) (
 .ret)))))))))⟩
theorem c11_eq : fnOf Try.prog 11 = some c11 := by kernel_rfl
def fcells (ev id m s r : Int) (S : List Nat) (c : Int) (g : Bool) : List V := [.int .u64 ev, .int .u64 id] ++ rcells m s r S c g
def fnd (ev id m s r : Int) (S : List Nat) (c : Int) (g : Bool) : V := .agg (fcells ev id m s r S c g)
theorem f_thin (ev id m s r : Int) (S : List Nat) (c : Int) (g : Bool) : Thin (fcells ev id m s r S c g) := by
  intro v hv
  unfold fcells at hv
  rcases List.mem_append.1 hv with h | h
  · simp at h; rcases h with rfl | rfl <;> rfl
  · exact r_thin m s r S c g v h
theorem f_len {S : List Nat} (hS : S.length = 16) (ev id m s r c : Int) (g : Bool) : (fcells ev id m s r S c g).length = 23 := by
  unfold fcells
  rw [List.length_append, r_len hS]
  rfl
theorem f_width {S : List Nat} (hS : S.length = 16) (ev id m s r c : Int) (g : Bool) : width (fcells ev id m s r S c g) = 23 := by
  rw [width_thin (f_thin ev id m s r S c g), f_len hS]
structure FndAt (H : Heap) (b : Bk) (ev id m s r : Int) (S : List Nat) (c : Int) (g : Bool) : Prop where
  own : H.get b = some (.rows false 23 [fcells ev id m s r S c g])
  len : S.length = 16
section
variable {H : Heap} {b : Bk} {ev id m s r : Int} {S : List Nat} {c : Int} {g : Bool} (h : FndAt H b ev id m s r S c g)
include h
theorem fnd_cut {o n : Nat} (hn : o + n ≤ 23) (ho : o < 23) : loadAt H ⟨b, o⟩ n = some (((fcells ev id m s r S c g).drop o).take n) := by
  rw [loadAt_eq h.own (r := fcells ev id m s r S c g) (nth_of (by rw [Nat.div_eq_of_lt ho]; rfl)), Nat.mod_eq_of_lt ho]
  exact cut_thin (f_thin ev id m s r S c g) (by rw [f_len h.len]; exact hn)
theorem fnd_all : loadAt H ⟨b, 0⟩ 23 = some (fcells ev id m s r S c g) := by
  rw [fnd_cut h (by omega) (by omega), List.drop_zero, List.take_of_length_le (by rw [f_len h.len]; omega)]
theorem fnd_ev : loadAt H ⟨b, 0⟩ 1 = some [.int .u64 ev] := by rw [fnd_cut h (by omega) (by omega)]; rfl
theorem fnd_id : loadAt H ⟨b, 1⟩ 1 = some [.int .u64 id] := by rw [fnd_cut h (by omega) (by omega)]; rfl
theorem fnd_m : loadAt H ⟨b, 2⟩ 1 = some [.int .i64 m] := by rw [fnd_cut h (by omega) (by omega)]; rfl
theorem fnd_g : loadAt H ⟨b, 2⟩ 3 = some [.int .i64 m, .int .i64 s, .int .i64 r] := by rw [fnd_cut h (by omega) (by omega)]; rfl
theorem fnd_r : loadAt H ⟨b, 2⟩ 21 = some (rcells m s r S c g) := by
  rw [fnd_cut h (by omega) (by omega)]
  unfold fcells
  show some (List.take 21 (rcells m s r S c g)) = _
  rw [List.take_of_length_le (by rw [r_len h.len]; omega)]
theorem FndAt.turns {H' : Heap} (t : Turns Z H H') (ho : H.Old b) : FndAt H' b ev id m s r S c g := ⟨(t.same b ho (fun h => h)).trans h.own, h.len⟩
end
def zf : List V := fcells 0 0 0 0 0 (List.replicate 16 0) 0 false
theorem put_f {S S' : List Nat} (hS : S.length = 16) (hS' : S'.length = 16) (ev id m s r c c' : Int) (g : Bool) : Go.Am.put (fcells ev id m s r S c g) 2 (rcells m s r S' c' g) = some (fcells ev id m s r S' c' g) := by
  match S, S', hS, hS' with
  | [_, _, _, _, _, _, _, _, _, _, _, _, _, _, _, _], [_, _, _, _, _, _, _, _, _, _, _, _, _, _, _, _], _, _ => rfl
theorem put_ff {S S' : List Nat} (hS : S.length = 16) (hS' : S'.length = 16) (ev id m s r c ev' id' m' s' r' c' : Int) (g g' : Bool) : Go.Am.put (fcells ev id m s r S c g) 0 (fcells ev' id' m' s' r' S' c' g') = some (fcells ev' id' m' s' r' S' c' g') := by
  match S, S', hS, hS' with
  | [_, _, _, _, _, _, _, _, _, _, _, _, _, _, _, _], [_, _, _, _, _, _, _, _, _, _, _, _, _, _, _, _], _, _ => rfl
theorem put_fr {S : List Nat} (hS : S.length = 16) (ev id m s r c : Int) (g : Bool) : Go.Am.put [.int .u64 ev, .int .u64 id, .int .i64 0, .int .i64 0, .int .i64 0, .int .u8 0, .int .u8 0, .int .u8 0, .int .u8 0, .int .u8 0, .int .u8 0, .int .u8 0, .int .u8 0, .int .u8 0, .int .u8 0, .int .u8 0, .int .u8 0, .int .u8 0, .int .u8 0, .int .u8 0, .int .u8 0, .int .i64 0, .bool false] 2 (rcells m s r S c g) = some (fcells ev id m s r S c g) := by
  match S, hS with
  | [_, _, _, _, _, _, _, _, _, _, _, _, _, _, _, _], _ => rfl
noncomputable def evOf : Option Nat → Nat
  | none => 0
  | some C => sealN C
noncomputable def fOf : Option Nat → List V
  | none => zf
  | some C => fcells (sealN C) (fld C 0 8) (fld C 8 1) (fld C 9 2) (fld C 11 2) (gSt C) (fld C 18 2) (((fld C 20 1 : Nat) : Int) == 1)
noncomputable def bestC (B : disk.Bn) (N : Nat) : Nat → Option Nat
  | 0 => none
  | d + 1 => match gC B N d with
    | none => bestC B N d
    | some C => if sealN C ≤ evOf (bestC B N d) then bestC B N d else some C
theorem bestC_ok {B : disk.Bn} {N : Nat} : ∀ {d C : Nat}, bestC B N d = some C → ∃ i, i < d ∧ gC B N i = some C
  | 0, C, h => by cases h
  | d + 1, C, h => by
    unfold bestC at h
    split at h
    · obtain ⟨i, h1, h2⟩ := bestC_ok h
      exact ⟨i, by omega, h2⟩
    · rename_i C' hC
      split at h
      · obtain ⟨i, h1, h2⟩ := bestC_ok h
        exact ⟨i, by omega, h2⟩
      · cases h; exact ⟨d, by omega, hC⟩
def keepM (B : disk.Bn) (N C i : Nat) : Prop := ∃ C', gC B N i = some C' ∧ fld C' 0 8 = fld C 0 8 ∧ (fld C' 8 1 = fld C 8 1 ∧ fld C' 9 2 = fld C 9 2 ∧ fld C' 11 2 = fld C 11 2) ∧ fld C' 13 1 = i
open Classical in
noncomputable def lostS (B : disk.Bn) (N C : Nat) : Nat → List Nat × Nat
  | 0 => (gSt C, fld C 18 2)
  | i + 1 => if keepM B N C i then lostS B N C i else ((lostS B N C i).1.set i 1, if (lostS B N C i).1.getD i 0 = 2 then 0 else (lostS B N C i).2)
theorem lostS_len (B : disk.Bn) (N C : Nat) : ∀ i, (lostS B N C i).1.length = 16
  | 0 => gSt_len C
  | i + 1 => by
    unfold lostS
    split
    · exact lostS_len B N C i
    · simpa using lostS_len B N C i
theorem lostS_fine {B : disk.Bn} {N C : Nat} {m s r : Int} (h : fine m s r (gSt C) (fld C 18 2)) : ∀ i : Nat, (i : Int) ≤ m → fine m s r (lostS B N C i).1 ((lostS B N C i).2 : Int)
  | 0, _ => h
  | i + 1, hi => by
    have ih := lostS_fine (B := B) (N := N) h i (by omega)
    unfold lostS
    split
    · exact ih
    · have := lose_fine (lostS_len B N C i) ih (show (i : Int) < m by omega)
      unfold loseC at this
      show fine m s r _ (((if (lostS B N C i).1.getD i 0 = 2 then 0 else (lostS B N C i).2 : Nat)) : Int)
      split at this
      · rename_i e; rw [if_pos e]; exact this
      · rename_i e; rw [if_neg e]; exact this
end Go.Proofs.Ytabebpemfinejaa.draft
