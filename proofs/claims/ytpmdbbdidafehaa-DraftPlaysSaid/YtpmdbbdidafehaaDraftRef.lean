/-
  The document's transaction: a list of writes by rising blocks.
-/
import Derived.Test.YtpmdbbdidafehaaDraftWrites
set_option linter.unusedVariables false
set_option linter.unusedSimpArgs false
set_option maxRecDepth 10000
namespace Go.Proofs.Ytpmdbbdidafehaa.draft
open Go.Am

/-- ashlar/ashlarref25.New -/
noncomputable def c10 : CFn := ⟨[.tmp (pp 2), .tmp (pp 3)],
 .seq (.reg [
 qo 1 (.m (boxF 3 (tt 0))) [pp 0],
 qo 2 (.p (S.get (.c (.ptr none)))) [],
 qo 3 (.p (S.get (ii 0))) []]) (
 .seq (.seq (.reg [
 qo 4 (.r (loadF (tt 1) 3 .ag)) [pp 1],
 qo 5 (.c (callF (ff 22) [(tt 4)])) [pp 4],
 qo 6 (.p (unF .not (tt 5))) [pp 5]]) (
 .cond (tt 6) (.seq (.reg [
 qo 2 (.p (S.get (.c (.ptr none)))) [],
 qo 3 (.p (S.get (ii 2))) []]) (
 .ret)) (.skip))) (
 .seq (.reg [
 qo 7 (.r (loadF (tt 1) 3 .ag)) [pp 1],
 qo 8 (.p (buildF [.int .i64 0, .int .i64 0, .int .i64 0, .slice none 0 0 0] .ag [(0, 3, (tt 7))])) [pp 7],
 qo 9 (.m (boxF 4 (tt 8))) [pp 8],
 mv 2 9,
 qo 3 (.p (S.get (ii 0))) []]) (
 .ret)))⟩
theorem c10_eq : fnOf Try.prog 10 = some c10 := by kernel_rfl

noncomputable def c13_l0 : C := .seq (.seq (.reg [
 mv 21 7,
 mv 22 0,
 qo 23 (.p (nilcF (tt 22))) [pp 22],
 qo 24 (.p (faddrF (tt 23) 3)) [pp 23],
 qo 25 (.r (loadF (tt 24) 1 .sc)) [pp 24],
 qo 26 (.p (lenF (tt 25))) [pp 25],
 qo 27 (.p (arF .lss (tt 21) (tt 26))) [pp 21, pp 26],
 mv 28 27,
 mg 29 0 28 true,
 qg 30 (.p (nilcF (tt 29))) 28 true [pp 29],
 qg 31 (.p (faddrF (tt 30) 3)) 28 true [pp 30],
 qg 32 (.r (loadF (tt 31) 1 .sc)) 28 true [pp 31],
 mg 33 7 28 true,
 qg 34 (.p (iaddrSF (tt 32) (tt 33) 65)) 28 true [pp 32, pp 33],
 qg 35 (.p (faddrF (tt 34) 0)) 28 true [pp 34],
 qg 36 (.r (loadF (tt 35) 1 .sc)) 28 true [pp 35],
 mg 37 1 28 true,
 qg 38 (.p (arF .lss (tt 36) (tt 37))) 28 true [pp 36, pp 37],
 qo 39 (.p (pickF (tt 28) (tt 38) (.c (.bool false)))) [pp 28, pp 38]]) (
 .cond (tt 39) (.skip) (.exit 0))) (
 .block 1 (.reg [
 mv 40 7,
 qo 41 (.p (arF .add (tt 40) (ii 1))) [pp 40],
 mv 7 41]))
/-- (*ashlar/ashlarref25.Draft).Write -/
noncomputable def c13 : CFn := ⟨[.tmp (pp 6)],
 .seq (.reg [
 qo 5 (.m (boxF 64 (tt 2))) [pp 2],
 qo 6 (.p (S.get (ii 0))) []]) (
 .seq (.seq (.reg [
 mv 10 1,
 qo 11 (.p (arF .lss (tt 10) (ii 0))) [pp 10],
 mv 12 11,
 mg 13 1 12 false,
 mg 14 0 12 false,
 qg 15 (.p (nilcF (tt 14))) 12 false [pp 14],
 qg 16 (.p (faddrF (tt 15) 0)) 12 false [pp 15],
 qg 17 (.r (loadF (tt 16) 3 .ag)) 12 false [pp 16],
 qg 18 (.c (callF (ff 46) [(tt 17)])) 12 false [pp 17],
 qg 19 (.p (arF .geq (tt 13) (tt 18))) 12 false [pp 13, pp 18],
 qo 20 (.p (pickF (tt 12) (.c (.bool true)) (tt 19))) [pp 12, pp 19]]) (
 .cond (tt 20) (.seq (.reg [
 qo 6 (.p (S.get (ii 12))) []]) (
 .ret)) (.skip))) (
 .seq (.reg [
 qo 7 (.p (S.get (ii 0))) []]) (
 .seq (.block 0 (.loop c13_l0)) (
 .seq (.reg [
 mv 42 1,
 qo 43 (.r (loadF (tt 5) 64 .bk)) [pp 5],
 qo 44 (.p (buildF [.int .i64 0, .blk 0] .ag [(0, 1, (tt 42)), (1, 64, (tt 43))])) [pp 42, pp 43],
 qo 8 (.m (allocF 65 [.int .i64 0, .blk 0])) [],
 qn (.a (storeF (tt 8) (tt 44) 65)) [pp 8, pp 44]]) (
 .seq (.seq (.reg [
 mv 45 7,
 mv 46 0,
 qo 47 (.p (nilcF (tt 46))) [pp 46],
 qo 48 (.p (faddrF (tt 47) 3)) [pp 47],
 qo 49 (.r (loadF (tt 48) 1 .sc)) [pp 48],
 qo 50 (.p (lenF (tt 49))) [pp 49],
 qo 51 (.p (arF .lss (tt 45) (tt 50))) [pp 45, pp 50],
 mv 52 51,
 mg 53 0 52 true,
 qg 54 (.p (nilcF (tt 53))) 52 true [pp 53],
 qg 55 (.p (faddrF (tt 54) 3)) 52 true [pp 54],
 qg 56 (.r (loadF (tt 55) 1 .sc)) 52 true [pp 55],
 mg 57 7 52 true,
 qg 58 (.p (iaddrSF (tt 56) (tt 57) 65)) 52 true [pp 56, pp 57],
 qg 59 (.p (faddrF (tt 58) 0)) 52 true [pp 58],
 qg 60 (.r (loadF (tt 59) 1 .sc)) 52 true [pp 59],
 mg 61 1 52 true,
 qg 62 (.p (eqcF false false [.int .i64] (tt 60) (tt 61))) 52 true [pp 60, pp 61],
 qo 63 (.p (pickF (tt 52) (tt 62) (.c (.bool false)))) [pp 52, pp 62]]) (
 .cond (tt 63) (.seq (.regD [
 mv 64 0,
 qo 65 (.p (nilcF (tt 64))) [pp 64],
 qo 66 (.p (faddrF (tt 65) 3)) [pp 65],
 qo 67 (.r (loadF (tt 66) 1 .sc)) [pp 66],
 mv 68 7,
 qo 69 (.r (loadF (tt 8) 65 .ag)) [pp 8],
 qo 70 (.p (iaddrSF (tt 67) (tt 68) 65)) [pp 67, pp 68],
 qn (.a (storeF (tt 70) (tt 69) 65)) [pp 70, pp 69]] [0, 1, 3, 7, 0, 0, 63, 127]) (
 .seq (.reg [
 qo 6 (.p (S.get (ii 0))) []]) (
 .ret))) (.skip))) (
 .seq (.seq (.reg [
 mv 71 0,
 qo 72 (.p (nilcF (tt 71))) [pp 71],
 qo 73 (.p (faddrF (tt 72) 3)) [pp 72],
 qo 74 (.r (loadF (tt 73) 1 .sc)) [pp 73],
 qo 75 (.p (lenF (tt 74))) [pp 74],
 qo 76 (.p (arF .geq (tt 75) (ii 16))) [pp 75]]) (
 .cond (tt 76) (.seq (.reg [
 qo 6 (.p (S.get (ii 11))) []]) (
 .ret)) (.skip))) (
 .seq (.reg [
 qo 9 (.p (S.get (.c (.slice none 0 0 0)))) []]) (
 .seq (.reg [
 mv 77 9,
 mv 78 0,
 qo 79 (.p (nilcF (tt 78))) [pp 78],
 qo 80 (.p (faddrF (tt 79) 3)) [pp 79],
 qo 81 (.r (loadF (tt 80) 1 .sc)) [pp 80],
 mv 82 7,
 qo 83 (.p (sliceF 65 (tt 81) none (some (tt 82)) none)) [pp 81, pp 82],
 qo 84 (.a (appF 65 72 (tt 77) (tt 83))) [pp 77, pp 83],
 mv 9 84]) (
 .seq (.reg [
 mv 85 9,
 qo 86 (.r (loadF (tt 8) 65 .ag)) [pp 8],
 qo 87 (.m (bsliceF 1 65 [.int .i64 0, .blk 0] [(0, 65, (tt 86))])) [pp 86],
 qo 88 (.a (appF 65 72 (tt 85) (tt 87))) [pp 85, pp 87],
 mv 9 88]) (
 .seq (.reg [
 mv 89 0,
 mv 90 9,
 mv 91 0,
 qo 92 (.p (nilcF (tt 91))) [pp 91],
 qo 93 (.p (faddrF (tt 92) 3)) [pp 92],
 qo 94 (.r (loadF (tt 93) 1 .sc)) [pp 93],
 mv 95 7,
 qo 96 (.p (sliceF 65 (tt 94) (some (tt 95)) none none)) [pp 94, pp 95],
 qo 97 (.a (appF 65 72 (tt 90) (tt 96))) [pp 90, pp 96],
 qo 98 (.p (nilcF (tt 89))) [pp 89],
 qo 99 (.p (faddrF (tt 98) 3)) [pp 98],
 qn (.a (storeF (tt 99) (tt 97) 1)) [pp 99, pp 97]]) (
 .seq (.reg [
 qo 6 (.p (S.get (ii 0))) []]) (
 .ret))))))))))))⟩
theorem c13_eq : fnOf Try.prog 13 = some c13 := by kernel_rfl

noncomputable def c15_l0 : C := .seq (.seq (.reg [
 mv 7 6,
 mv 8 0,
 qo 9 (.p (nilcF (tt 8))) [pp 8],
 qo 10 (.p (faddrF (tt 9) 3)) [pp 9],
 qo 11 (.r (loadF (tt 10) 1 .sc)) [pp 10],
 qo 12 (.p (lenF (tt 11))) [pp 11],
 qo 13 (.p (arF .lss (tt 7) (tt 12))) [pp 7, pp 12]]) (
 .cond (tt 13) (.skip) (.exit 0))) (
 .seq (.block 1 (.seq (.reg [
 mv 16 0,
 qo 17 (.p (nilcF (tt 16))) [pp 16],
 qo 18 (.p (faddrF (tt 17) 3)) [pp 17],
 qo 19 (.r (loadF (tt 18) 1 .sc)) [pp 18],
 mv 20 6,
 qo 21 (.p (iaddrSF (tt 19) (tt 20) 65)) [pp 19, pp 20],
 qo 22 (.p (faddrF (tt 21) 0)) [pp 21],
 qo 23 (.r (loadF (tt 22) 1 .sc)) [pp 22],
 mv 24 1,
 qo 25 (.p (eqcF false false [.int .i64] (tt 23) (tt 24))) [pp 23, pp 24]]) (
 .cond (tt 25) (.seq (.reg [
 mv 26 0,
 qo 27 (.p (nilcF (tt 26))) [pp 26],
 qo 28 (.p (faddrF (tt 27) 3)) [pp 27],
 qo 29 (.r (loadF (tt 28) 1 .sc)) [pp 28],
 mv 30 6,
 qo 31 (.p (iaddrSF (tt 29) (tt 30) 65)) [pp 29, pp 30],
 qo 32 (.p (faddrF (tt 31) 1)) [pp 31],
 qo 33 (.r (loadF (tt 32) 64 .bk)) [pp 32],
 qn (.a (storeF (tt 4) (tt 33) 64)) [pp 4, pp 33],
 qo 5 (.p (S.get (.c (.bool true)))) []]) (
 .ret)) (.skip)))) (
 .reg [
 mv 14 6,
 qo 15 (.p (arF .add (tt 14) (ii 1))) [pp 14],
 mv 6 15]))
/-- (*ashlar/ashlarref25.Draft).Read -/
noncomputable def c15 : CFn := ⟨[.cell (pp 4) 64 .bk, .tmp (pp 5)],
 .seq (.reg [
 qo 4 (.m (allocF 64 [.blk 0])) [],
 qo 5 (.p (S.get (.c (.bool false)))) []]) (
 .seq (.seq (.reg [
 qo 6 (.p (S.get (ii 0))) []]) (
 .block 0 (.loop c15_l0))) (
 .seq (.reg [
 qo 34 (.p (buildF [.blk 0] .bk [])) [],
 qn (.a (storeF (tt 4) (tt 34) 64)) [pp 4, pp 34],
 qo 5 (.p (S.get (.c (.bool false)))) []]) (
 .ret)))⟩
theorem c15_eq : fnOf Try.prog 15 = some c15 := by kernel_rfl


/-! ### lists by rising blocks -/

def Rising (L : Ws) : Prop := (L.map (·.1)).Pairwise (· < ·)
def pos : Ws → Int → Nat
  | [], _ => 0
  | w :: l, k => if w.1 < k then pos l k + 1 else 0
def insW : Ws → Int → Nat → Ws
  | [], k, B => [(k, B)]
  | w :: l, k, B => if w.1 < k then w :: insW l k B else if w.1 = k then (k, B) :: l else (k, B) :: w :: l

theorem pos_le (k : Int) : ∀ L : Ws, pos L k ≤ L.length
  | [] => Nat.le_refl _
  | w :: l => by
    unfold pos
    have := pos_le k l
    split
    · simp; omega
    · omega
theorem pos_lt {k : Int} : ∀ {L : Ws} {i : Nat} {w : Int × Nat}, i < pos L k → L[i]? = some w → w.1 < k
  | [], i, w, h, _ => by simp [pos] at h
  | v :: l, i, w, h, hw => by
    unfold pos at h
    split at h
    · rename_i hv
      cases i with
      | zero => simp at hw; subst hw; exact hv
      | succ i => exact pos_lt (L := l) (i := i) (by omega) (by simpa using hw)
    · omega
theorem pos_ge {k : Int} : ∀ {L : Ws} {w : Int × Nat}, L[pos L k]? = some w → ¬ w.1 < k
  | [], w, h => by simp at h
  | v :: l, w, h => by
    unfold pos at h
    split at h
    · exact pos_ge (L := l) (by simpa using h)
    · rename_i hv
      simp at h; subst h; exact hv
theorem gt_insW (k : Int) (B : Nat) (k' : Int) : ∀ L : Ws, gt (insW L k B) k' = if k' = k then some B else gt L k'
  | [] => by
    unfold insW
    rw [gt_cons]
    by_cases e : k' = k
    · rw [if_pos e, if_pos (show (k, B).1 = k' from e.symm)]
    · rw [if_neg e, if_neg (show ¬ (k, B).1 = k' from fun x => e x.symm)]
  | w :: l => by
    unfold insW
    by_cases h1 : w.1 < k
    · rw [if_pos h1, gt_cons, gt_insW k B k' l, gt_cons]
      by_cases e : k' = k
      · rw [if_pos e, if_pos e, if_neg (by omega)]
      · rw [if_neg e, if_neg e]
    · rw [if_neg h1]
      by_cases h2 : w.1 = k
      · rw [if_pos h2, gt_cons, gt_cons]
        by_cases e : k' = k
        · rw [if_pos e, if_pos (show (k, B).1 = k' from e.symm)]
        · rw [if_neg e, if_neg (show ¬ (k, B).1 = k' from fun x => e x.symm), if_neg (by omega)]
      · rw [if_neg h2, gt_cons]
        by_cases e : k' = k
        · rw [if_pos e, if_pos (show (k, B).1 = k' from e.symm)]
        · rw [if_neg e, if_neg (show ¬ (k, B).1 = k' from fun x => e x.symm)]
theorem insW_mem {k x : Int} {B : Nat} : ∀ {L : Ws}, x ∈ (insW L k B).map (·.1) → x = k ∨ x ∈ L.map (·.1)
  | [], h => by simp [insW] at h; exact .inl h
  | w :: l, h => by
    unfold insW at h
    split at h
    · rw [List.map_cons, List.mem_cons] at h
      rcases h with h | h
      · exact .inr (by rw [h]; simp)
      · rcases insW_mem h with h | h
        · exact .inl h
        · exact .inr (by rw [List.map_cons]; exact List.mem_cons_of_mem _ h)
    · split at h
      · rw [List.map_cons, List.mem_cons] at h
        rcases h with h | h
        · exact .inl h
        · exact .inr (by rw [List.map_cons]; exact List.mem_cons_of_mem _ h)
      · rw [List.map_cons, List.mem_cons] at h
        exact h
theorem insW_rising {k : Int} {B : Nat} : ∀ {L : Ws}, Rising L → Rising (insW L k B)
  | [], _ => by unfold insW Rising; simp
  | w :: l, h => by
    unfold Rising at h
    rw [List.map_cons, List.pairwise_cons] at h
    unfold insW
    by_cases h1 : w.1 < k
    · rw [if_pos h1]
      unfold Rising
      rw [List.map_cons, List.pairwise_cons]
      refine ⟨fun x hx => ?_, insW_rising h.2⟩
      rcases insW_mem hx with e | e
      · omega
      · exact h.1 x e
    · rw [if_neg h1]
      by_cases h2 : w.1 = k
      · rw [if_pos h2]
        unfold Rising
        rw [List.map_cons, List.pairwise_cons]
        exact ⟨fun x hx => by have := h.1 x hx; show k < x; omega, h.2⟩
      · rw [if_neg h2]
        unfold Rising
        rw [List.map_cons, List.pairwise_cons, List.map_cons, List.pairwise_cons]
        refine ⟨fun x hx => ?_, h.1, h.2⟩
        show k < x
        rcases List.mem_cons.1 hx with e | e
        · omega
        · have := h.1 x e; omega
theorem insW_set {k : Int} {B : Nat} : ∀ {L : Ws} {w : Int × Nat}, L[pos L k]? = some w → w.1 = k → insW L k B = L.set (pos L k) (k, B)
  | [], w, h, _ => by simp at h
  | v :: l, w, h, e => by
    unfold pos at h ⊢
    unfold insW
    by_cases h1 : v.1 < k
    · rw [if_pos h1] at h ⊢
      rw [if_pos h1, List.set_cons_succ, insW_set (L := l) (by simpa using h) e]
    · rw [if_neg h1] at h ⊢
      simp at h
      subst h
      rw [if_neg h1, if_pos e]
      rfl
theorem insW_ins {k : Int} {B : Nat} : ∀ {L : Ws}, (∀ w, L[pos L k]? = some w → w.1 ≠ k) → insW L k B = L.take (pos L k) ++ (k, B) :: L.drop (pos L k)
  | [], _ => rfl
  | v :: l, h => by
    unfold pos at h ⊢
    unfold insW
    by_cases h1 : v.1 < k
    · rw [if_pos h1] at h ⊢
      rw [if_pos h1, insW_ins (L := l) (fun w hw => h w (by simpa using hw))]
      rfl
    · rw [if_neg h1] at h ⊢
      rw [if_neg h1, if_neg (h v (by simp))]
      rfl
theorem gt_lt {k : Int} : ∀ {L : Ws}, (∀ x ∈ L.map (·.1), k < x) → gt L k = none
  | [], _ => rfl
  | w :: l, h => by
    have := h w.1 (by simp)
    rw [gt_cons, if_neg (by omega)]
    exact gt_lt (fun x hx => h x (by rw [List.map_cons]; exact List.mem_cons_of_mem _ hx))
theorem gt_pos {k : Int} : ∀ {L : Ws}, Rising L → gt L k = match L[pos L k]? with | some w => if w.1 = k then some w.2 else none | none => none
  | [], _ => rfl
  | w :: l, h => by
    unfold Rising at h
    rw [List.map_cons, List.pairwise_cons] at h
    unfold pos
    by_cases h1 : w.1 < k
    · rw [if_pos h1, gt_cons, if_neg (by omega), gt_pos h.2]
      simp
    · rw [if_neg h1, gt_cons]
      by_cases h2 : w.1 = k
      · rw [if_pos h2]; simp [h2]
      · rw [if_neg h2, gt_lt (fun x hx => by have := h.1 x hx; omega)]; simp [h2]
theorem rising_eq : ∀ {L : Ws}, Rising L → L = (L.map (·.1)).map fun k => (k, (gt L k).getD 0)
  | [], _ => rfl
  | w :: l, h => by
    unfold Rising at h
    rw [List.map_cons, List.pairwise_cons] at h
    rw [List.map_cons, List.map_cons]
    congr 1
    · rw [gt_cons, if_pos rfl]; rfl
    · refine (rising_eq h.2).trans (List.map_congr_left fun k hk => ?_)
      have := h.1 k hk
      rw [gt_cons, if_neg (by omega)]
theorem rising_ext {L L' : Ws} (h : Rising L) (h' : Rising L') (e : ∀ k, gt L k = gt L' k) : L = L' := by
  rw [rising_eq h, rising_eq h', sorted_ext h h' (fun x => by rw [← gt_mem, ← gt_mem, e])]
  exact List.map_congr_left fun k _ => by rw [e]

theorem gt_map (f : Int → Nat) (k : Int) : ∀ ks : List Int, gt (ks.map fun k => (k, f k)) k = if k ∈ ks then some (f k) else none
  | [] => rfl
  | x :: xs => by
    rw [List.map_cons, gt_cons, gt_map f k xs]
    by_cases e : x = k
    · subst e; simp
    · rw [if_neg e]
      simp [show ¬ k = x from fun h => e h.symm]
theorem gt_told (W : Ws) (k : Int) : gt (told W) k = gt W k := by
  unfold told
  rw [gt_map, getB_gt]
  by_cases h : k ∈ srt W
  · rw [if_pos h]
    obtain ⟨x, hx⟩ := Option.isSome_iff_exists.1 (srt_mem.1 h)
    rw [hx]; rfl
  · rw [if_neg h]
    cases hg : gt W k with
    | none => rfl
    | some x => exact absurd (srt_mem.2 (by rw [hg]; rfl)) h
theorem told_rising {W : Ws} (g : Good W) : Rising (told W) := by
  unfold Rising told
  rw [List.map_map]
  have : (srt W).map ((fun w : Int × Nat => w.1) ∘ fun k => (k, getB W k)) = srt W := by
    show (srt W).map (fun k => k) = srt W
    exact List.map_id _
  rw [this]
  exact g.srt
theorem told_put {W : Ws} (g : Good W) {k : Int} {B : Nat} (g' : Good (W.put k B)) : told (W.put k B) = insW (told W) k B :=
  rising_ext (told_rising g') (insW_rising (told_rising g)) (fun k' => by rw [gt_told, gt_put, gt_insW, gt_told])

/-! ### slices of these -/

theorem cut_rowsW {L : Ws} : ∀ r ∈ rowsW L, cut r 0 65 = some r := by
  intro r hr
  obtain ⟨w, _, rfl⟩ := List.mem_map.1 hr
  exact cut_kb _ _
theorem elems_ok {H : Heap} {b : Bk} {R : List (List V)} (hg : H.get b = some (.rows false 65 R)) (hc : ∀ r ∈ R, cut r 0 65 = some r) : ∀ n i, i + n ≤ R.length → elems H b 65 n (i * 65) = some ((R.drop i).take n)
  | 0, i, _ => by simp [elems]
  | n + 1, i, h => by
    have hi : i < R.length := by omega
    have l : loadAt H ⟨b, i * 65⟩ 65 = some R[i] := by
      rw [loadAt_eq hg (r := R[i]) (nth_of (by rw [Nat.mul_div_cancel _ (by decide)]; exact List.getElem?_eq_getElem hi)), Nat.mul_mod_left]
      exact hc _ (List.getElem_mem hi)
    have e : Nat.add (i * 65) 65 = (i + 1) * 65 := by show i * 65 + 65 = _; omega
    unfold elems
    simp only [l, e, elems_ok hg hc n (i + 1) (by omega)]
    rw [List.drop_eq_getElem_cons hi, List.take_succ_cons]
    rfl
theorem bound_ok {y n : Nat} (h : n ≤ y) : bound y (.int .i64 (n : Int)) = some n := by
  unfold bound
  simp only [show asNat (.int .i64 (n : Int)) = some n from rfl, ble_iff.2 h]
theorem bounds_to {n a : Nat} (h : a ≤ n) : bounds n n none (some (.int .i64 (a : Int))) none = some (0, a, n) := by
  show (match bound n (.int .i64 (a : Int)) with
    | some h => some (0, h, n)
    | none => none) = _
  rw [bound_ok h]
theorem bounds_from {n a : Nat} (h : a ≤ n) : bounds n n (some (.int .i64 (a : Int))) none none = some (a, n, n) := by
  show (match bound n (.int .i64 (a : Int)) with
    | some l => some (l, n, n)
    | none => none) = _
  rw [bound_ok h]

/-- appended, maybe nothing -/
theorem appL {H0 H : Heap} {R new : List (List V)} {v : V} {p : Option Ptr} {n c o : Nat} (h : Lst H0 H 65 R v) (h0 : H0.next ≤ H.next) (hx : n ≠ 0 → firstE H 65 (.slice p n c o) = some new) (hn : new.length = n) (hl : R.length + n ≤ 16) :
    ∃ v' H', appendV 65 72 H v (.slice p n c o) = some (v', H') ∧ Lst H0 H' 65 (R ++ new) v' ∧ Turns (Bof v) H H' := by
  by_cases e : n = 0
  · subst e
    have hnew : new = [] := List.eq_nil_of_length_eq_zero hn
    subst hnew
    refine ⟨v, H, ?_, by rw [List.append_nil]; exact h, Turns.refl _ _⟩
    rcases h with ⟨rfl, rfl⟩ | ⟨k, _, rfl, _⟩
    · rfl
    · unfold appendV
      simp only [lenOf, show Nat.beq 0 0 = true from rfl, ble_iff.2 (Nat.le_refl R.length)]
  · have hne : new ≠ [] := fun h => by subst h; exact e hn.symm
    obtain ⟨H', ea, hv, t, _⟩ := h.app (by' := 72) (new := new) h0 (hx e) (by rw [hn]; rfl) hne (by decide) (by rw [hn]; omega) (by rw [hn]; omega)
    exact ⟨_, _, ea, hv, t⟩

/-! ### the document's transaction in the heap -/

structure RefAt (H0 H : Heap) (rb : Bk) (m s r : Int) (L : Ws) (v : V) : Prop where
  own : H.get rb = some (.rows false 4 [[.int .i64 m, .int .i64 s, .int .i64 r, v]])
  lst : Lst H0 H 65 (rowsW L) v
  base : H0.Old rb
  nx : H0.next ≤ H.next

theorem RefAt.sep {H0 H : Heap} {rb : Bk} {m s r : Int} {L : Ws} {v : V} (h : RefAt H0 H rb m s r L v) {c : Bk} (hc : H0.Old c) : ¬ Bof v c := fun hb => by
  obtain ⟨n, rfl, h1, _⟩ := h.lst.bof hb
  exact Heap.not_old h1 hc
theorem RefAt.turns {H0 H H' : Heap} {rb : Bk} {m s r : Int} {L : Ws} {v : V} (h : RefAt H0 H rb m s r L v) {X : Bk → Prop} (k : Turns X H H') (h1 : ¬ X rb) (h2 : ∀ c, Bof v c → ¬ X c) : RefAt H0 H' rb m s r L v :=
  ⟨(k.same rb (h.base.mono h.nx) h1).trans h.own, h.lst.turns k h2, h.base, Nat.le_trans h.nx k.next⟩

section
variable {H0 H : Heap} {rb : Bk} {m s r : Int} {L : Ws} {v : V} (h : RefAt H0 H rb m s r L v)
include h
theorem rld_g : loadAt H ⟨rb, 0⟩ 3 = some [.int .i64 m, .int .i64 s, .int .i64 r] := by rw [loadAt_eq h.own rfl]; rfl
theorem rld_v : loadAt H ⟨rb, 3⟩ 1 = some [v] := by
  rw [loadAt_eq h.own rfl]
  obtain ⟨p, c, o, rfl⟩ := h.lst.val
  rfl
theorem rval : ∃ p c o, v = .slice p L.length c o := by
  obtain ⟨p, c, o, e⟩ := h.lst.val
  exact ⟨p, c, o, by rw [e]; unfold rowsW; rw [List.length_map]⟩
theorem rld_i {i : Nat} (hi : i < L.length) : ∃ n, v = .slice (some ⟨.run n, 0⟩) L.length L.length 65 ∧ loadAt H ⟨.run n, i * 65⟩ 1 = some [.int .i64 L[i].1] ∧ loadAt H ⟨.run n, i * 65 + 1⟩ 64 = some [.blk L[i].2] := by
  have hrow : (rowsW L)[i]? = some [.int .i64 L[i].1, .blk L[i].2] := by unfold rowsW; rw [List.getElem?_map, List.getElem?_eq_getElem hi]; rfl
  obtain ⟨n, en, lk⟩ := h.lst.load (o := 0) (k := 1) hrow (by omega)
  obtain ⟨n', en', lb⟩ := h.lst.load (o := 1) (k := 64) hrow (by omega)
  rw [en] at en'
  cases en'
  refine ⟨n, by rw [en]; unfold rowsW; rw [List.length_map], lk.trans rfl, lb.trans ?_⟩
  show cut _ (0 + 1) 64 = _
  rw [cut_miss (n := 63) _ _ _ (by rfl)]
  exact cut_blk _ _
end

theorem rnew_ok (H : Heap) {m s r : Int} (hm : may m s r = true) (lf n : Nat) : ret (callS Try.prog S0 lf (n + 2) 10 [geo m s r] H) fun v H' => ∃ rb, v = .tuple [.ptr (some ⟨rb, 0⟩), .int .i64 0] ∧ RefAt H' H' rb m s r [] (.slice none 0 0 0) ∧ Turns Z H H' ∧ ¬ H.Old rb := by
  have t1 := Turns.add Z H (.rows false 3 [[.int .i64 m, .int .i64 s, .int .i64 r]])
  have hg : (H.add (.rows false 3 [[.int .i64 m, .int .i64 s, .int .i64 r]])).get (.run H.next) = some (.rows false 3 [[.int .i64 m, .int .i64 s, .int .i64 r]]) := by rw [Heap.get_add, if_pos rfl]
  have lw : loadAt (H.add (.rows false 3 [[.int .i64 m, .int .i64 s, .int .i64 r]])) ⟨.run H.next, 0⟩ 3 = some [.int .i64 m, .int .i64 s, .int .i64 r] := by rw [loadAt_eq hg rfl]; rfl
  obtain ⟨v, H1, e, rfl, t2⟩ := rmay_ok (H.add (.rows false 3 [[.int .i64 m, .int .i64 s, .int .i64 r]])) m s r lf n
  unfold geo at e
  rw [hm] at e
  have hg' : H1.get (.run H.next) = some (.rows false 3 [[.int .i64 m, .int .i64 s, .int .i64 r]]) := (t2.same _ (by show _ < _; simp) id).trans hg
  have lw' : loadAt H1 ⟨.run H.next, 0⟩ 3 = some [.int .i64 m, .int .i64 s, .int .i64 r] := by rw [loadAt_eq hg' rfl]; rfl
  have hn := (t1.trans t2).next
  have pf : put [.int .i64 0, .int .i64 0, .int .i64 0, .slice none 0 0 0] 0 [.int .i64 m, .int .i64 s, .int .i64 r] = some [.int .i64 m, .int .i64 s, .int .i64 r, .slice none 0 0 0] := rfl
  refine ret_call rfl c10_eq ?_
  simp only [c10, geo, e, lw, lw', pf, sy, tup, ↓reduceIte, Nat.reduceEqDiff, Nat.reduceAdd, Nat.reduceSub, Nat.reduceMul, Nat.reduceDiv, Nat.reduceMod, Nat.reduceLeDiff, Int.reduceBEq, reduceCtorEq]
  refine ⟨trivial, .inr trivial, _, rfl, .run H1.next, rfl, ⟨?_, Lst.nil _ _ _, ?_, Nat.le_refl _⟩, (t1.trans t2).addm _, Heap.not_old (by omega)⟩
  · rw [Heap.get_add, if_pos rfl]
  · show _ < _; simp

theorem rnew_err (H : Heap) {m s r : Int} (hm : may m s r = false) (lf n : Nat) : ret (callS Try.prog S0 lf (n + 2) 10 [geo m s r] H) fun v H' => v = .tuple [.ptr none, .int .i64 2] ∧ Turns Z H H' := by
  have t1 := Turns.add Z H (.rows false 3 [[.int .i64 m, .int .i64 s, .int .i64 r]])
  have hg : (H.add (.rows false 3 [[.int .i64 m, .int .i64 s, .int .i64 r]])).get (.run H.next) = some (.rows false 3 [[.int .i64 m, .int .i64 s, .int .i64 r]]) := by rw [Heap.get_add, if_pos rfl]
  have lw : loadAt (H.add (.rows false 3 [[.int .i64 m, .int .i64 s, .int .i64 r]])) ⟨.run H.next, 0⟩ 3 = some [.int .i64 m, .int .i64 s, .int .i64 r] := by rw [loadAt_eq hg rfl]; rfl
  obtain ⟨v, H1, e, rfl, t2⟩ := rmay_ok (H.add (.rows false 3 [[.int .i64 m, .int .i64 s, .int .i64 r]])) m s r lf n
  unfold geo at e
  rw [hm] at e
  refine ret_call rfl c10_eq ?_
  simp only [c10, geo, e, lw, sy, tup, ↓reduceIte, Nat.reduceEqDiff, Nat.reduceAdd, Nat.reduceSub, Nat.reduceMul, Nat.reduceDiv, Nat.reduceMod, Nat.reduceLeDiff, Int.reduceBEq, reduceCtorEq]
  exact ⟨trivial, .inr trivial, _, rfl, rfl, t1.trans t2⟩

theorem rread_ok {H0 H : Heap} {rb : Bk} {m s r : Int} {L : Ws} {v : V} (h : RefAt H0 H rb m s r L v) (hL : L.length ≤ 16) (k : Int) (lf n : Nat) (hlf : 17 < lf) : ret (callS Try.prog S0 lf (n + 1) 15 [.ptr (some ⟨rb, 0⟩), .int .i64 k] H) fun v1 H' => v1 = .tuple [.blk ((gt L k).getD 0), .bool (gt L k).isSome] ∧ Turns Z H H' := by
  have t1 := Turns.add Z H (.rows false 64 [[.blk 0]])
  have h1 := h.turns t1 id (fun _ _ => id)
  obtain ⟨p, c, o, ev⟩ := rval h
  refine ret_call rfl c15_eq ?_
  simp only [c15, sy, tup, ↓reduceIte, Nat.reduceEqDiff, Nat.reduceAdd, Nat.reduceSub, Nat.reduceMul, Nat.reduceDiv, Nat.reduceMod, Nat.reduceLeDiff, Int.reduceBEq, reduceCtorEq]
  have hloop : ∀ t : T, t.getP (Tr.path 0) = some (.ptr (some ⟨rb, 0⟩)) → t.getP (Tr.path 1) = some (.int .i64 k) → t.getP (Tr.path 4) = some (.ptr (some ⟨.run H.next, 0⟩)) → t.getP (Tr.path 6) = some (.int .i64 0) →
      wp (loopF (runC (callS Try.prog S0 lf n) lf c15_l0) lf ⟨t, H.add (.rows false 64 [[.blk 0]]), []⟩) fun x s' => s'.d = [] ∧ ((x = .ex 0 ∧ gt L k = none ∧ s'.H = H.add (.rows false 64 [[.blk 0]]) ∧ s'.t.getP (Tr.path 4) = some (.ptr (some ⟨.run H.next, 0⟩))) ∨
        (x = .ret ∧ ∃ B, gt L k = some B ∧ s'.H = (H.add (.rows false 64 [[.blk 0]])).set (.run H.next) (.rows false 64 [[.blk B]]) ∧ s'.t.getP (Tr.path 4) = some (.ptr (some ⟨.run H.next, 0⟩)) ∧ s'.t.getP (Tr.path 5) = some (.bool true))) := by
    intro t q0 q1 q4 q6
    refine wp_loopF (fun j s' => ∃ i : Nat, j = L.length - i ∧ i ≤ L.length ∧ s'.d = [] ∧ s'.H = H.add (.rows false 64 [[.blk 0]]) ∧ gt L k = gt (L.drop i) k ∧ s'.t.getP (Tr.path 0) = some (.ptr (some ⟨rb, 0⟩)) ∧ s'.t.getP (Tr.path 1) = some (.int .i64 k) ∧ s'.t.getP (Tr.path 4) = some (.ptr (some ⟨.run H.next, 0⟩)) ∧ s'.t.getP (Tr.path 6) = some (.int .i64 (i : Int))) ?_ lf L.length _ ⟨0, rfl, by omega, rfl, rfl, rfl, q0, q1, q4, q6⟩ (by omega)
    rintro j ⟨t, HH, d⟩ ⟨i, rfl, hi, hd, hH, hg, q0, q1, q4, q6⟩
    dsimp only at hd hH hg q0 q1 q4 q6
    subst hd; subst hH
    have lv := rld_v h1
    rw [ev] at lv
    by_cases hlt : i < L.length
    · have hlt' : (i : Int) < (L.length : Int) := by omega
      have hle' : i + 1 ≤ L.length := hlt
      obtain ⟨n0, en, lk, lb⟩ := rld_i h1 hlt
      rw [ev] at en
      cases en
      have w2 : IntKind.i64.wrap ((i : Int) + 1) = ((i + 1 : Nat) : Int) := by rw [wrap_i64 (by omega)]; omega
      rw [List.drop_eq_getElem_cons hlt, gt_cons] at hg
      by_cases e : L[i].1 = k
      · rw [if_pos e] at hg
        simp only [c15_l0, q0, q1, q4, q6, lv, hlt', hle', lk, lb, e, sy, tup, ↓reduceIte, Nat.reduceEqDiff, Nat.reduceAdd, Nat.reduceSub, Nat.reduceMul, Nat.reduceDiv, Nat.reduceMod, Nat.reduceLeDiff, Int.reduceBEq, reduceCtorEq]
        exact ⟨trivial, .inr ⟨trivial, _, hg, rfl, by first | trivial | exact q4, trivial⟩⟩
      · rw [if_neg e] at hg
        have hb : (L[i].1 == k) = false := by simp [e]
        simp only [c15_l0, q0, q1, q4, q6, lv, hlt', hle', lk, lb, hb, w2, sy, tup, ↓reduceIte, Nat.reduceEqDiff, Nat.reduceAdd, Nat.reduceSub, Nat.reduceMul, Nat.reduceDiv, Nat.reduceMod, Nat.reduceLeDiff, Int.reduceBEq, reduceCtorEq]
        exact ⟨L.length - (i + 1), by omega, i + 1, rfl, by omega, trivial, trivial, hg, by simp [q0], by simp [q1], by simp [q4], by simp⟩
    · have : i = L.length := by omega
      subst this
      rw [List.drop_of_length_le (Nat.le_refl _)] at hg
      simp only [c15_l0, q0, q1, q4, q6, lv, Int.lt_irrefl, sy, tup, ↓reduceIte, Nat.reduceEqDiff, Nat.reduceAdd, Nat.reduceSub, Nat.reduceMul, Nat.reduceDiv, Nat.reduceMod, Nat.reduceLeDiff, Int.reduceBEq, reduceCtorEq]
      exact ⟨trivial, .inl ⟨trivial, hg, trivial, by first | trivial | exact q4⟩⟩
  refine wp_ctx (F := fun r => seqC _ _ _ (blockC _ r)) (hloop _ ?_ ?_ ?_ ?_) ?_
  · simp only [sy, tup, ↓reduceIte, Nat.reduceEqDiff, Nat.reduceAdd, Nat.reduceSub, Nat.reduceMul, Nat.reduceDiv, Nat.reduceMod, Nat.reduceLeDiff, Int.reduceBEq, reduceCtorEq]
  · simp only [sy, tup, ↓reduceIte, Nat.reduceEqDiff, Nat.reduceAdd, Nat.reduceSub, Nat.reduceMul, Nat.reduceDiv, Nat.reduceMod, Nat.reduceLeDiff, Int.reduceBEq, reduceCtorEq]
  · simp only [sy, tup, ↓reduceIte, Nat.reduceEqDiff, Nat.reduceAdd, Nat.reduceSub, Nat.reduceMul, Nat.reduceDiv, Nat.reduceMod, Nat.reduceLeDiff, Int.reduceBEq, reduceCtorEq]
  · simp only [sy, tup, ↓reduceIte, Nat.reduceEqDiff, Nat.reduceAdd, Nat.reduceSub, Nat.reduceMul, Nat.reduceDiv, Nat.reduceMod, Nat.reduceLeDiff, Int.reduceBEq, reduceCtorEq]
  rintro x ⟨t, HH, d⟩ ⟨hd, ⟨rfl, hg, hH, q4⟩ | ⟨rfl, B, hg, hH, q4, q5⟩⟩
  · dsimp only at hd hH q4
    subst hd; subst hH
    rw [hg]
    simp only [q4, sy, tup, ↓reduceIte, Nat.reduceEqDiff, Nat.reduceAdd, Nat.reduceSub, Nat.reduceMul, Nat.reduceDiv, Nat.reduceMod, Nat.reduceLeDiff, Int.reduceBEq, reduceCtorEq]
    simp
    exact t1.setnew (Nat.le_refl _) _
  · dsimp only at hd hH q4 q5
    subst hd; subst hH
    rw [hg]
    simp only [q4, q5, sy, tup, ↓reduceIte, Nat.reduceEqDiff, Nat.reduceAdd, Nat.reduceSub, Nat.reduceMul, Nat.reduceDiv, Nat.reduceMod, Nat.reduceLeDiff, Int.reduceBEq, reduceCtorEq]
    simp
    exact t1.setnew (Nat.le_refl _) _

end Go.Proofs.Ytpmdbbdidafehaa.draft

