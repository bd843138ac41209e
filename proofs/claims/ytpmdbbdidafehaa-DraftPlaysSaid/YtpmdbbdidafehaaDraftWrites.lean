/-
  What was written, told by rising blocks; lists of writes compared.
-/
import Derived.Test.YtpmdbbdidafehaaDraft
set_option linter.unusedVariables false
set_option linter.unusedSimpArgs false
set_option maxRecDepth 10000
namespace Go.Proofs.Ytpmdbbdidafehaa.draft
open Go.Am

noncomputable def c18_l0 : C := .seq (.reg [
 qo 16 (.p (arF .lss (tt 15) (tt 14))) [pp 15, pp 14]]) (
 .seq (.cond (tt 16) (.skip) (.exit 0)) (
 .seq (.block 1 (.seq (.reg [
 qo 17 (.p (iaddrSF (tt 13) (tt 15) 1)) [pp 13, pp 15],
 qo 18 (.r (loadF (tt 17) 1 .sc)) [pp 17],
 mv 5 18]) (
 .reg [
 mv 19 3,
 mv 20 5,
 mv 21 0,
 qo 22 (.p (nilcF (tt 21))) [pp 21],
 qo 23 (.p (faddrF (tt 22) 3)) [pp 22],
 qo 24 (.r (loadF (tt 23) 1 .sc)) [pp 23],
 mv 25 5,
 qo 26 (.r (lookF (.blk 0) false (tt 24) (tt 25))) [pp 24, pp 25],
 qo 27 (.p (buildF [.int .i64 0, .blk 0] .ag [(0, 1, (tt 20)), (1, 64, (tt 26))])) [pp 20, pp 26],
 qo 28 (.m (bsliceF 1 65 [.int .i64 0, .blk 0] [(0, 65, (tt 27))])) [pp 27],
 qo 29 (.a (appF 65 72 (tt 19) (tt 28))) [pp 19, pp 28],
 mv 3 29]))) (
 .reg [
 qo 30 (.p (arF .add (tt 15) (ii 1))) [pp 15],
 mv 15 30])))
/-- (*ashlar/draft.Draft).Writes -/
noncomputable def c18 : CFn := ⟨[.tmp (pp 2)],
 .seq (.reg [
 qo 2 (.p (S.get (.c (.slice none 0 0 0)))) []]) (
 .seq (.seq (.reg [
 mv 6 0,
 qo 7 (.c (callF (ff 44) [(tt 6)])) [pp 6]]) (
 .cond (tt 7) (.seq (.reg [
 qo 2 (.p (S.get (.c (.slice none 0 0 0)))) []]) (
 .ret)) (.skip))) (
 .seq (.reg [
 qo 3 (.p (S.get (.c (.slice none 0 0 0)))) []]) (
 .seq (.seq (.reg [
 mv 8 0,
 qo 9 (.p (nilcF (tt 8))) [pp 8],
 qo 10 (.p (faddrF (tt 9) 3)) [pp 9],
 qo 11 (.r (loadF (tt 10) 1 .sc)) [pp 10],
 qo 12 (.c (callF (ff 48) [(tt 11)])) [pp 11],
 qo 13 (.c (callF (ff 47) [(tt 12)])) [pp 12],
 qo 14 (.p (lenF (tt 13))) [pp 13],
 qo 15 (.p (S.get (ii 0))) []]) (
 .block 0 (.loop c18_l0))) (
 .seq (.reg [
 mv 31 3,
 mv 2 31]) (
 .ret)))))⟩
theorem c18_eq : fnOf Try.prog 18 = some c18 := by kernel_rfl

noncomputable def c17_l0 : C := .seq (.seq (.reg [
 mv 11 5,
 mv 12 0,
 qo 13 (.p (lenF (tt 12))) [pp 12],
 qo 14 (.p (arF .lss (tt 11) (tt 13))) [pp 11, pp 13]]) (
 .cond (tt 14) (.skip) (.exit 0))) (
 .seq (.block 1 (.seq (.regD [
 mv 17 0,
 mv 18 5,
 qo 19 (.p (iaddrSF (tt 17) (tt 18) 65)) [pp 17, pp 18],
 qo 20 (.r (loadF (tt 19) 65 .ag)) [pp 19],
 mv 21 1,
 mv 22 5,
 qo 23 (.p (iaddrSF (tt 21) (tt 22) 65)) [pp 21, pp 22],
 qo 24 (.r (loadF (tt 23) 65 .ag)) [pp 23],
 qo 25 (.p (eqcF true true [.int .i64, .blk] (tt 20) (tt 24))) [pp 20, pp 24]] [0, 0, 3, 7, 0, 0, 48, 112, 255]) (
 .cond (tt 25) (.seq (.reg [
 qo 4 (.p (S.get (.c (.bool false)))) []]) (
 .ret)) (.skip)))) (
 .reg [
 mv 15 5,
 qo 16 (.p (arF .add (tt 15) (ii 1))) [pp 15],
 mv 5 16]))
/-- ashlar/ashlarref00.Writes -/
noncomputable def c17 : CFn := ⟨[.tmp (pp 4)],
 .seq (.reg [
 qo 4 (.p (S.get (.c (.bool false)))) []]) (
 .seq (.seq (.reg [
 mv 6 0,
 qo 7 (.p (lenF (tt 6))) [pp 6],
 mv 8 1,
 qo 9 (.p (lenF (tt 8))) [pp 8],
 qo 10 (.p (eqcF true false [.int .i64] (tt 7) (tt 9))) [pp 7, pp 9]]) (
 .cond (tt 10) (.seq (.reg [
 qo 4 (.p (S.get (.c (.bool false)))) []]) (
 .ret)) (.skip))) (
 .seq (.seq (.reg [
 qo 5 (.p (S.get (ii 0))) []]) (
 .block 0 (.loop c17_l0))) (
 .seq (.reg [
 qo 4 (.p (S.get (.c (.bool true)))) []]) (
 .ret))))⟩
theorem c17_eq : fnOf Try.prog 17 = some c17 := by kernel_rfl


/-! ### sorted numbers -/

theorem insI_sorted (x : Int) : ∀ {l : List Int}, l.Pairwise (· < ·) → x ∉ l → (insI x l).Pairwise (· < ·)
  | [], _, _ => List.pairwise_singleton _ _
  | y :: ys, h, hx => by
    unfold insI
    rw [ltI_eq]
    by_cases e : y < x
    · simp only [e, decide_true]
      refine List.pairwise_cons.2 ⟨fun z hz => ?_, insI_sorted x (List.pairwise_cons.1 h).2 (fun k => hx (List.mem_cons_of_mem _ k))⟩
      rcases List.mem_cons.1 ((insI_perm x ys).mem_iff.1 hz) with rfl | hz
      · exact e
      · exact (List.pairwise_cons.1 h).1 z hz
    · simp only [e, decide_false]
      have hn : x ≠ y := fun k => hx (by subst k; exact List.mem_cons_self ..)
      have hlt : x < y := by omega
      refine List.pairwise_cons.2 ⟨fun z hz => ?_, h⟩
      rcases List.mem_cons.1 hz with rfl | hz
      · exact hlt
      · exact Int.lt_trans hlt ((List.pairwise_cons.1 h).1 z hz)
theorem sortI_sorted : ∀ {l : List Int}, l.Nodup → (sortI l).Pairwise (· < ·)
  | [], _ => .nil
  | x :: xs, h => insI_sorted x (sortI_sorted (List.nodup_cons.1 h).2) (fun k => (List.nodup_cons.1 h).1 ((sortI_perm xs).mem_iff.1 k))
theorem riseI_of : ∀ {l : List Int}, l.Pairwise (· < ·) → riseI l = true
  | [], _ => rfl
  | [x], _ => rfl
  | x :: y :: ys, h => by
    have h1 := (List.pairwise_cons.1 h).1 y (List.mem_cons_self ..)
    have h2 := riseI_of (List.pairwise_cons.1 h).2
    unfold riseI
    simp only [ltI_eq, h1, decide_true]
    exact h2
theorem sorted_ext : ∀ {l k : List Int}, l.Pairwise (· < ·) → k.Pairwise (· < ·) → (∀ x, x ∈ l ↔ x ∈ k) → l = k
  | [], [], _, _, _ => rfl
  | [], y :: ys, _, _, h => absurd ((h y).2 (List.mem_cons_self ..)) (by simp)
  | x :: xs, [], _, _, h => absurd ((h x).1 (List.mem_cons_self ..)) (by simp)
  | x :: xs, y :: ys, hl, hk, h => by
    obtain ⟨l1, l2⟩ := List.pairwise_cons.1 hl
    obtain ⟨k1, k2⟩ := List.pairwise_cons.1 hk
    have e : x = y := by
      rcases List.mem_cons.1 ((h x).1 (List.mem_cons_self ..)) with e | hx
      · exact e
      · rcases List.mem_cons.1 ((h y).2 (List.mem_cons_self ..)) with e | hy
        · exact e.symm
        · have := l1 _ hy; have := k1 _ hx; omega
    subst e
    rw [sorted_ext l2 k2 (fun z => ⟨fun hz => ?_, fun hz => ?_⟩)]
    · rcases List.mem_cons.1 ((h z).1 (List.mem_cons_of_mem _ hz)) with e | hz'
      · subst e; exact absurd (l1 _ hz) (by omega)
      · exact hz'
    · rcases List.mem_cons.1 ((h z).2 (List.mem_cons_of_mem _ hz)) with e | hz'
      · subst e; exact absurd (k1 _ hz) (by omega)
      · exact hz'

/-! ### what was written, as it may be -/

structure Good (W : Ws) : Prop where
  nd : (W.map (·.1)).Nodup
  lt : ∀ w ∈ W, 0 ≤ w.1 ∧ w.1 < 960
  le : W.length ≤ 16

def srt (W : Ws) : List Int := sortI (W.map (·.1))
def told (W : Ws) : Ws := (srt W).map fun k => (k, getB W k)
def rowsW (L : Ws) : List (List V) := L.map fun w => [.int .i64 w.1, .blk w.2]

theorem gt_mem : ∀ {W : Ws} {k : Int}, (gt W k).isSome = true ↔ k ∈ W.map (·.1)
  | [], k => by simp [gt, idx]
  | w :: l, k => by
    rw [gt_cons, List.map_cons, List.mem_cons]
    by_cases e : w.1 = k
    · rw [if_pos e]; simp [e]
    · rw [if_neg e, gt_mem]
      constructor
      · exact .inr
      · rintro (h | h)
        · exact absurd h.symm e
        · exact h
theorem srt_mem {W : Ws} {k : Int} : k ∈ srt W ↔ (gt W k).isSome = true := by
  unfold srt
  rw [(sortI_perm _).mem_iff, gt_mem]
theorem srt_len (W : Ws) : (srt W).length = W.length := by
  unfold srt
  rw [(sortI_perm _).length_eq, List.length_map]
theorem told_len (W : Ws) : (told W).length = W.length := by unfold told; rw [List.length_map, srt_len]
theorem Good.srt {W : Ws} (g : Good W) : (srt W).Pairwise (· < ·) := sortI_sorted g.nd
theorem told_eq {W W' : Ws} (g : Good W) (g' : Good W') (h : ∀ k, gt W k = gt W' k) : told W = told W' := by
  unfold told
  rw [sorted_ext g.srt g'.srt (fun k => by rw [srt_mem, srt_mem, h])]
  exact List.map_congr_left fun k _ => by rw [getB_gt, getB_gt, h]

theorem wf_i64 {n : Int} (h : -9223372036854775808 ≤ n ∧ n ≤ 9223372036854775807) : (Lit.int .i64 n).wf = true := by
  show (decide (IntKind.i64.min ≤ n) && decide (n ≤ IntKind.i64.max)) = true
  rw [Bool.and_eq_true]
  exact ⟨decide_eq_true h.1, decide_eq_true h.2⟩
theorem keysE_ents : ∀ (W : Ws) (i : Nat), (∀ w ∈ W, 0 ≤ w.1 ∧ w.1 < 960) → keysE (ents W i) = some (W.map (·.1))
  | [], _, _ => rfl
  | w :: l, i, h => by
    have hw := h w (List.mem_cons_self ..)
    simp only [ents, keysE, wf_i64 (n := w.1) (by omega), keysE_ents l (i + 1) (fun x hx => h x (List.mem_cons_of_mem _ hx)), List.map_cons]
theorem stampE_ents : ∀ (W : Ws) (c lo i : Nat), lo ≤ i → i + W.length ≤ c → stampE c lo (ents W i) = true
  | [], _, _, _, _, _ => rfl
  | w :: l, c, lo, i, h1, h2 => by
    have h3 : i + 1 + l.length ≤ c := by simp at h2; omega
    simp only [ents, stampE, ble_iff.2 h1, ble_iff.2 (show Nat.succ i ≤ c by omega)]
    exact stampE_ents l c (Nat.succ i) (i + 1) (Nat.le_refl _) h3

theorem ble_num {n : Nat} (h : n ≤ 16) : Nat.ble n 1000000 = true := ble_iff.2 (by omega)

/-- the keys, sorted: what the two calls give -/
theorem sorted_ok {H : Heap} {b mb : Bk} {m s r : Int} {W : Ws} (h : DraftAt H b mb m s r W) (g : Good W) (lf n : Nat) : ∃ v H', callS Try.prog S0 lf (n + 1) 47 [.func (.func 84) [] [.ptr (some ⟨.run H.next, 0⟩)]] (H.add (.box (.map (some mb)))) = some (.v v, H') ∧ Lst H H' 1 ((srt W).map fun k => [.int .i64 k]) v ∧ Turns Z H H' := by
  have t1 := Turns.add Z H (.box (.map (some mb)))
  have h1 := h.turns t1 id id
  have hg : (H.add (.box (.map (some mb)))).get (.run H.next) = some (.box (.map (some mb))) := by rw [Heap.get_add, if_pos rfl]
  have hat : ∀ v H', sortedAt (some mb) (H.add (.box (.map (some mb)))) = some (v, H') → callS Try.prog S0 lf (n + 1) 47 [.func (.func 84) [] [.ptr (some ⟨.run H.next, 0⟩)]] (H.add (.box (.map (some mb)))) = some (v, H') := by
    intro v H' hs
    rw [callS_succ]
    have : S0 47 [.func (.func 84) [] [.ptr (some ⟨.run H.next, 0⟩)]] (H.add (.box (.map (some mb)))) = some (v, H') := by
      have e0 : ∀ A Hx, S0 47 [A] Hx = sortedS 47 84 47 [A] Hx := fun _ _ => rfl
      rw [e0]
      unfold sortedS
      simp only [hg, show Nat.beq 47 47 = true from rfl, show Nat.beq 84 84 = true from rfl, show Nat.beq 0 0 = true from rfl]
      exact hs
    rw [this]
  have hk := keysE_ents W 0 g.lt
  have hst := stampE_ents W W.length 0 0 (Nat.le_refl _) (by omega)
  have hb := ble_num (n := (ents W 0).length) (by rw [ents_len]; exact g.le)
  have hr := riseI_of g.srt
  unfold srt at hr
  by_cases hW : W = []
  · subst hW
    refine ⟨_, _, hat _ _ (by unfold sortedAt; simp only [mp_at h1]; rfl), .inl ⟨rfl, rfl⟩, t1⟩
  · obtain ⟨w, l, rfl⟩ : ∃ w l, W = w :: l := by cases W with | nil => exact absurd rfl hW | cons w l => exact ⟨w, l, rfl⟩
    have hne : srt (w :: l) ≠ [] := fun e => by have := srt_len (w :: l); rw [e] at this; simp at this
    refine ⟨.slice (some ⟨.run (H.next + 1), 0⟩) (srt (w :: l)).length (srt (w :: l)).length 1, (H.add (.box (.map (some mb)))).add (.rows false 1 ((srt (w :: l)).map fun k => [.int .i64 k])), hat _ _ ?_, .inr ⟨H.next + 1, by simpa using hne, by simp, ?_, by omega, by simp⟩, t1.addm _⟩
    · unfold sortedAt
      simp only [mp_at h1, hk, hst, hb, hr]
      rfl
    · rw [Heap.get_add, if_pos (by simp)]

theorem Lst.base {H0 H1 H : Heap} {sz : Nat} {R : List (List V)} {v : V} (h : Lst H1 H sz R v) (k : H0.next ≤ H1.next) : Lst H0 H sz R v := by
  rcases h with h | ⟨n, h1, h2, h3, h4, h5⟩
  · exact .inl h
  · exact .inr ⟨n, h1, h2, h3, Nat.le_trans k h4, h5⟩

theorem cut_kb (k : Int) (B : Nat) : cut [.int .i64 k, .blk B] 0 65 = some [.int .i64 k, .blk B] := rfl

theorem writes_ok {H : Heap} {b mb : Bk} {m s r : Int} {W : Ws} (h : DraftAt H b mb m s r W) (g : Good W) (lf n : Nat) (hlf : 17 < lf) : ret (callS Try.prog S0 lf (n + 2) 18 [.ptr (some ⟨b, 0⟩)] H) fun v H' => Lst H H' 65 (rowsW (told W)) v ∧ Turns Z H H' := by
  have l := ld_m h
  have e := none_ok h lf n
  have ek : callS Try.prog S0 lf (n + 1) 48 [.map (some mb)] H = some (.v (.func (.func 84) [] [.ptr (some ⟨.run H.next, 0⟩)]), H.add (.box (.map (some mb)))) := rfl
  obtain ⟨v0, H2, es, hv0, t2⟩ := sorted_ok h g lf n
  have hl0 : (srt W).length = W.length := srt_len W
  have hle := g.le
  refine ret_call rfl c18_eq ?_
  obtain ⟨p0, c0, o0, ev0⟩ := hv0.val
  rw [List.length_map, hl0] at ev0
  rw [ev0] at es
  simp only [c18, e, l, ek, es, sy, tup, ↓reduceIte, Nat.reduceEqDiff, Nat.reduceAdd, Nat.reduceSub, Nat.reduceMul, Nat.reduceDiv, Nat.reduceMod, Nat.reduceLeDiff, Int.reduceBEq, reduceCtorEq]
  have h2 := h.turns t2 id id
  have hloop : ∀ t : T, t.getP (Tr.path 0) = some (.ptr (some ⟨b, 0⟩)) → t.getP (Tr.path 3) = some (.slice none 0 0 0) → t.getP (Tr.path 13) = some v0 → t.getP (Tr.path 14) = some (.int .i64 (W.length : Int)) → t.getP (Tr.path 15) = some (.int .i64 0) →
      wp (loopF (runC (callS Try.prog S0 lf (n + 1)) lf c18_l0) lf ⟨t, H2, []⟩) fun x s => x = .ex 0 ∧ s.d = [] ∧ ∃ v, s.t.getP (Tr.path 3) = some v ∧ Lst H2 s.H 65 (rowsW (told W)) v ∧ Turns Z H2 s.H := by
    intro t q0 q3 q13 q14 q15
    refine wp_loopF (fun k s => ∃ i : Nat, k = W.length - i ∧ i ≤ W.length ∧ s.d = [] ∧ s.t.getP (Tr.path 0) = some (.ptr (some ⟨b, 0⟩)) ∧ s.t.getP (Tr.path 13) = some v0 ∧ s.t.getP (Tr.path 14) = some (.int .i64 (W.length : Int)) ∧ s.t.getP (Tr.path 15) = some (.int .i64 (i : Int)) ∧ ∃ v, s.t.getP (Tr.path 3) = some v ∧ Lst H2 s.H 65 (rowsW ((told W).take i)) v ∧ Turns Z H2 s.H) ?_ lf W.length _ ⟨0, rfl, by omega, rfl, q0, q13, q14, q15, _, q3, Lst.nil _ _ _, Turns.refl _ _⟩ (by omega)
    rintro k ⟨t, HH, d⟩ ⟨i, rfl, hi, hd, q0, q13, q14, q15, v, q3, hv, tz⟩
    dsimp only at hd q0 q13 q14 q15 q3 hv tz
    subst hd
    by_cases hlt : i < W.length
    · have hlt' : (i : Int) < (W.length : Int) := by omega
      have hle' : i + 1 ≤ W.length := hlt
      have hik : i < (srt W).length := by omega
      have hrow : ((srt W).map fun k => ([.int .i64 k] : List V))[i]? = some [.int .i64 (srt W)[i]] := by rw [List.getElem?_map, List.getElem?_eq_getElem hik]; rfl
      obtain ⟨n0, en, lk⟩ := (hv0.turns tz (fun _ _ => id)).load (o := 0) (k := 1) hrow (by omega)
      rw [List.length_map, hl0] at en
      have lk : loadAt HH ⟨.run n0, i * 1⟩ 1 = some [.int .i64 (srt W)[i]] := lk.trans rfl
      rw [en] at q13
      have hh := h2.turns tz id id
      have lm := ld_m hh
      have hm := mp_at hh
      obtain ⟨pj, hpj⟩ : ∃ pj, idx W (srt W)[i] = some pj := by
        have := srt_mem.1 (List.getElem_mem hik)
        rw [← gt_isSome] at this
        exact Option.isSome_iff_exists.1 this
      have hB : getB W (srt W)[i] = pj.2 := by unfold getB; rw [hpj]
      have hti : (told W)[i]? = some ((srt W)[i], pj.2) := by unfold told; rw [List.getElem?_map, List.getElem?_eq_getElem hik]; simp [hB]
      have htk : (told W).take (i + 1) = (told W).take i ++ [((srt W)[i], pj.2)] := by rw [List.take_add_one, hti]; rfl
      have ta := Turns.add Z HH (.rows false 65 [[.int .i64 (srt W)[i], .blk pj.2]])
      have hxg : (HH.add (.rows false 65 [[.int .i64 (srt W)[i], .blk pj.2]])).get (.run HH.next) = some (.rows false 65 [[.int .i64 (srt W)[i], .blk pj.2]]) := by rw [Heap.get_add, if_pos rfl]
      have hva := hv.turns ta (fun _ _ => id)
      have hlen : (rowsW ((told W).take i)).length = i := by unfold rowsW; rw [List.length_map, List.length_take, told_len]; omega
      obtain ⟨H', ea, hv', ta', _⟩ := hva.app1 (by' := 72) (Nat.le_trans tz.next ta.next) hxg (cut_kb _ _) (by decide) (by rw [hlen]; omega) (by rw [hlen]; omega)
      have hrw : rowsW ((told W).take i) ++ [[.int .i64 (srt W)[i], .blk pj.2]] = rowsW ((told W).take (i + 1)) := by rw [htk]; unfold rowsW; simp
      rw [hrw] at hv'
      have w2 : IntKind.i64.wrap ((i : Int) + 1) = ((i + 1 : Nat) : Int) := by rw [wrap_i64 (by omega)]; omega
      have tz' : Turns Z H2 H' := (tz.trans ta).later ta' (fun c hc hb => by
        obtain ⟨n1, rfl, h1, _⟩ := hva.bof hb
        exact absurd hc (Heap.not_old h1))
      simp only [c18_l0, q0, q3, q13, q14, q15, hlt', hle', w2, lk, lm, hm, isInt, find_ents, hpj, ea, sy, tup, ↓reduceIte, Nat.reduceEqDiff, Nat.reduceAdd, Nat.reduceSub, Nat.reduceMul, Nat.reduceDiv, Nat.reduceMod, Nat.reduceLeDiff, Int.reduceBEq, reduceCtorEq]
      unfold lookF
      simp only [q0, q3, q13, q14, q15, w2, lm, hm, isInt, find_ents, hpj, ea, sy, tup, ↓reduceIte, Nat.reduceEqDiff, Nat.reduceAdd, Nat.reduceSub, Nat.reduceMul, Nat.reduceDiv, Nat.reduceMod, Nat.reduceLeDiff, Int.reduceBEq, reduceCtorEq]
      refine ⟨W.length - (i + 1), by omega, i + 1, rfl, by omega, trivial, ?_, ?_, ?_, ?_, _, ?_, hv', tz'⟩
      all_goals simp [en, q0, q14]
    · have : i = W.length := by omega
      subst this
      simp only [c18_l0, q14, q15, Int.lt_irrefl, sy, tup, ↓reduceIte, Nat.reduceEqDiff, Nat.reduceAdd, Nat.reduceSub, Nat.reduceMul, Nat.reduceDiv, Nat.reduceMod, Nat.reduceLeDiff, Int.reduceBEq, reduceCtorEq]
      rw [List.take_of_length_le (by rw [told_len]; omega)] at hv
      exact ⟨trivial, trivial, v, q3, hv, tz⟩
  rw [← ev0]
  refine wp_ctx (F := fun r => seqC _ _ _ (blockC _ r)) (hloop _ ?_ ?_ ?_ ?_ ?_) ?_
  · simp only [sy, tup, ↓reduceIte, Nat.reduceEqDiff, Nat.reduceAdd, Nat.reduceSub, Nat.reduceMul, Nat.reduceDiv, Nat.reduceMod, Nat.reduceLeDiff, Int.reduceBEq, reduceCtorEq]
  · simp only [sy, tup, ↓reduceIte, Nat.reduceEqDiff, Nat.reduceAdd, Nat.reduceSub, Nat.reduceMul, Nat.reduceDiv, Nat.reduceMod, Nat.reduceLeDiff, Int.reduceBEq, reduceCtorEq]
  · simp only [sy, tup, ↓reduceIte, Nat.reduceEqDiff, Nat.reduceAdd, Nat.reduceSub, Nat.reduceMul, Nat.reduceDiv, Nat.reduceMod, Nat.reduceLeDiff, Int.reduceBEq, reduceCtorEq]
  · simp only [sy, tup, ↓reduceIte, Nat.reduceEqDiff, Nat.reduceAdd, Nat.reduceSub, Nat.reduceMul, Nat.reduceDiv, Nat.reduceMod, Nat.reduceLeDiff, Int.reduceBEq, reduceCtorEq]
  · simp only [sy, tup, ↓reduceIte, Nat.reduceEqDiff, Nat.reduceAdd, Nat.reduceSub, Nat.reduceMul, Nat.reduceDiv, Nat.reduceMod, Nat.reduceLeDiff, Int.reduceBEq, reduceCtorEq]
  rintro x ⟨t, HH, d⟩ ⟨rfl, hd, v, q3, hv, tz⟩
  dsimp only at hd q3 hv tz
  subst hd
  simp only [q3, sy, tup, ↓reduceIte, Nat.reduceEqDiff, Nat.reduceAdd, Nat.reduceSub, Nat.reduceMul, Nat.reduceDiv, Nat.reduceMod, Nat.reduceLeDiff, Int.reduceBEq, reduceCtorEq]
  exact ⟨trivial, .inr trivial, _, rfl, Lst.base hv t2.next, t2.trans tz⟩

theorem sameW_ok {H0 H0' H : Heap} {L : Ws} {v v' : V} (h : Lst H0 H 65 (rowsW L) v) (h' : Lst H0' H 65 (rowsW L) v') (hL : L.length ≤ 16) (lf n : Nat) (hlf : 17 < lf) : callS Try.prog S0 lf (n + 1) 17 [v, v'] H = some (.v (.bool true), H) := by
  have hlen : (rowsW L).length = L.length := List.length_map ..
  obtain ⟨p, c, o, ev⟩ := h.val
  obtain ⟨p', c', o', ev'⟩ := h'.val
  rw [hlen] at ev ev'
  obtain ⟨v1, H', e, rfl, rfl⟩ : ret (callS Try.prog S0 lf (n + 1) 17 [v, v'] H) fun v1 H' => v1 = .bool true ∧ H' = H := by
    refine ret_call (by rw [ev, ev']; rfl) c17_eq ?_
    simp only [c17, ev, ev', sy, tup, ↓reduceIte, Nat.reduceEqDiff, Nat.reduceAdd, Nat.reduceSub, Nat.reduceMul, Nat.reduceDiv, Nat.reduceMod, Nat.reduceLeDiff, Int.reduceBEq, reduceCtorEq]
    have hloop : ∀ t : T, t.getP (Tr.path 0) = some v → t.getP (Tr.path 1) = some v' → t.getP (Tr.path 5) = some (.int .i64 0) →
        wp (loopF (runC (callS Try.prog S0 lf n) lf c17_l0) lf ⟨t, H, []⟩) fun x s => x = .ex 0 ∧ s.d = [] ∧ s.H = H := by
      intro t q0 q1 q5
      refine wp_loopF (fun k s => ∃ i : Nat, k = L.length - i ∧ i ≤ L.length ∧ s.d = [] ∧ s.H = H ∧ s.t.getP (Tr.path 0) = some v ∧ s.t.getP (Tr.path 1) = some v' ∧ s.t.getP (Tr.path 5) = some (.int .i64 (i : Int))) ?_ lf L.length _ ⟨0, rfl, by omega, rfl, rfl, q0, q1, q5⟩ (by omega)
      rintro k ⟨t, HH, d⟩ ⟨i, rfl, hi, hd, hH, q0, q1, q5⟩
      dsimp only at hd hH q0 q1 q5
      subst hd; subst hH
      by_cases hlt : i < L.length
      · have hlt' : (i : Int) < (L.length : Int) := by omega
        have hle' : i + 1 ≤ L.length := hlt
        have hrow : (rowsW L)[i]? = some [.int .i64 L[i].1, .blk L[i].2] := by unfold rowsW; rw [List.getElem?_map, List.getElem?_eq_getElem hlt]; rfl
        obtain ⟨n0, en, lk⟩ := h.load (o := 0) (k := 65) hrow (by omega)
        obtain ⟨n1, en', lk'⟩ := h'.load (o := 0) (k := 65) hrow (by omega)
        rw [cut_kb] at lk lk'
        have lk : loadAt HH ⟨.run n0, i * 65⟩ 65 = some [.int .i64 L[i].1, .blk L[i].2] := lk
        have lk' : loadAt HH ⟨.run n1, i * 65⟩ 65 = some [.int .i64 L[i].1, .blk L[i].2] := lk'
        rw [hlen] at en en'
        rw [en] at q0
        rw [en'] at q1
        have w2 : IntKind.i64.wrap ((i : Int) + 1) = ((i + 1 : Nat) : Int) := by rw [wrap_i64 (by omega)]; omega
        simp only [c17_l0, q0, q1, q5, hlt', hle', w2, lk, lk', sy, tup, ↓reduceIte, Nat.reduceEqDiff, Nat.reduceAdd, Nat.reduceSub, Nat.reduceMul, Nat.reduceDiv, Nat.reduceMod, Nat.reduceLeDiff, Int.reduceBEq, reduceCtorEq]
        rw [endD_ok (by kernel_rfl) (by kernel_rfl)]
        simp only [q0, q1, q5, hlt', hle', w2, lk, lk', sy, tup, ↓reduceIte, Nat.reduceEqDiff, Nat.reduceAdd, Nat.reduceSub, Nat.reduceMul, Nat.reduceDiv, Nat.reduceMod, Nat.reduceLeDiff, Int.reduceBEq, reduceCtorEq]
        refine ⟨L.length - (i + 1), by omega, i + 1, rfl, by omega, trivial, trivial, ?_, ?_, ?_⟩
        all_goals simp [en, en', q0, q1]
      · have : i = L.length := by omega
        subst this
        have q0' := q0
        have q1' := q1
        rw [ev] at q0'
        simp only [c17_l0, q0', q5, Int.lt_irrefl, sy, tup, ↓reduceIte, Nat.reduceEqDiff, Nat.reduceAdd, Nat.reduceSub, Nat.reduceMul, Nat.reduceDiv, Nat.reduceMod, Nat.reduceLeDiff, Int.reduceBEq, reduceCtorEq]
        exact ⟨trivial, trivial, trivial⟩
    rw [← ev, ← ev']
    refine wp_ctx (F := fun r => seqC _ _ _ (blockC _ r)) (hloop _ ?_ ?_ ?_) ?_
    · simp only [sy, tup, ↓reduceIte, Nat.reduceEqDiff, Nat.reduceAdd, Nat.reduceSub, Nat.reduceMul, Nat.reduceDiv, Nat.reduceMod, Nat.reduceLeDiff, Int.reduceBEq, reduceCtorEq]
    · simp only [sy, tup, ↓reduceIte, Nat.reduceEqDiff, Nat.reduceAdd, Nat.reduceSub, Nat.reduceMul, Nat.reduceDiv, Nat.reduceMod, Nat.reduceLeDiff, Int.reduceBEq, reduceCtorEq]
    · simp only [sy, tup, ↓reduceIte, Nat.reduceEqDiff, Nat.reduceAdd, Nat.reduceSub, Nat.reduceMul, Nat.reduceDiv, Nat.reduceMod, Nat.reduceLeDiff, Int.reduceBEq, reduceCtorEq]
    rintro x ⟨t, HH, d⟩ ⟨rfl, hd, hH⟩
    dsimp only at hd hH
    subst hd; subst hH
    simp only [sy, tup, ↓reduceIte, Nat.reduceEqDiff, Nat.reduceAdd, Nat.reduceSub, Nat.reduceMul, Nat.reduceDiv, Nat.reduceMod, Nat.reduceLeDiff, Int.reduceBEq, reduceCtorEq]
    simp
  exact e

end Go.Proofs.Ytpmdbbdidafehaa.draft

