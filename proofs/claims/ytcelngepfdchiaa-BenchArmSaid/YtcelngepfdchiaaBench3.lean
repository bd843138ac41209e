/-
  A bench of three devices of eight sectors, as it is made; and what steps keep.
-/
import Derived.Test.YtcelngepfdchiaaBench2
import Derived.Test.YtcelngepfdchiaaWf
set_option linter.unusedVariables false
set_option linter.unusedSimpArgs false
set_option maxRecDepth 10000
namespace Go.Proofs.Ytcelngepfdchiaa.disk
open Go.Am

noncomputable def rowOf (o : Option Am.Obj) (i : Nat) : List V := match o with
  | some (.rows _ _ rs) => match nth rs i with
    | some r => r
    | none => []
  | _ => []
def headB (r : List V) : Bk := match r with
  | .ptr (some p) :: _ => p.b
  | .slice (some p) _ _ _ :: _ => p.b
  | _ => .run 0
def newB (lo hi : Nat) : Bk → Bool
  | .run k => match Nat.ble lo k with
    | true => Nat.ble (Nat.succ k) hi
    | false => false
  | .arg _ => false
def noB (b : Bk) : List Bk → Bool
  | [] => true
  | c :: cs => match Bk.beq b c with
    | true => false
    | false => noB b cs
def nodupB : List Bk → Bool
  | [] => true
  | b :: bs => match noB b bs with
    | true => nodupB bs
    | false => false
def allB (f : Bk → Bool) : List Bk → Bool
  | [] => true
  | b :: bs => match f b with
    | true => allB f bs
    | false => false
theorem noB_iff : ∀ {l : List Bk} {b : Bk}, noB b l = true → ∀ c ∈ l, b ≠ c
  | [], b, _, c, hc => absurd hc (by simp)
  | x :: l, b, h, c, hc => by
    unfold noB at h
    split at h
    · cases h
    · rename_i hb
      rcases List.mem_cons.1 hc with rfl | hc
      · exact Bk.beq_false.1 hb
      · exact noB_iff h c hc
theorem nodupB_iff : ∀ {l : List Bk}, nodupB l = true → l.Nodup
  | [], _ => List.nodup_nil
  | x :: l, h => by
    unfold nodupB at h
    split at h
    · rename_i hb
      exact List.nodup_cons.2 ⟨fun hm => noB_iff hb x hm rfl, nodupB_iff h⟩
    · cases h
theorem allB_iff {f : Bk → Bool} : ∀ {l : List Bk}, allB f l = true → ∀ c ∈ l, f c = true
  | [], _, c, hc => absurd hc (by simp)
  | x :: l, h, c, hc => by
    unfold allB at h
    split at h
    · rename_i hb
      rcases List.mem_cons.1 hc with rfl | hc
      · exact hb
      · exact allB_iff h c hc
    · cases h
theorem newB_iff {H0 H : Heap} {b : Bk} (h : newB H0.next H.next b = true) : ¬ H0.Old b ∧ H.Old b := by
  unfold newB at h
  split at h
  · split at h
    · rename_i k hk
      have h1 := ble_iff.1 hk
      have h2 := ble_iff.1 h
      exact ⟨Heap.not_old h1, h2⟩
    · cases h
  · cases h

def dev0 (d s : Bk) : Dv := ⟨d, ⟨s, 0, s, none, 0⟩, ⟨List.replicate 8 0, [], false⟩⟩

structure Laid3 (H0 H : Heap) (b ds d0 s0 d1 s1 d2 s2 : Bk) (so : Nat) : Prop where
  own : H.get b = some (.rows false 4 [[.slice (some ⟨ds, 0⟩) 3 3 so, .int .i64 0, .int .i64 0, .bool false]])
  ptrs : H.get ds = some (.rows false 1 [[.ptr (some ⟨d0, 0⟩)], [.ptr (some ⟨d1, 0⟩)], [.ptr (some ⟨d2, 0⟩)]])
  o0 : H.get d0 = some (.rows false 3 [[.slice (some ⟨s0, 0⟩) 8 8 0, .slice none 0 0 0, .bool false]])
  o1 : H.get d1 = some (.rows false 3 [[.slice (some ⟨s1, 0⟩) 8 8 0, .slice none 0 0 0, .bool false]])
  o2 : H.get d2 = some (.rows false 3 [[.slice (some ⟨s2, 0⟩) 8 8 0, .slice none 0 0 0, .bool false]])
  u0 : H.get s0 = some (.rows false 64 [[.blk 0], [.blk 0], [.blk 0], [.blk 0], [.blk 0], [.blk 0], [.blk 0], [.blk 0]])
  u1 : H.get s1 = some (.rows false 64 [[.blk 0], [.blk 0], [.blk 0], [.blk 0], [.blk 0], [.blk 0], [.blk 0], [.blk 0]])
  u2 : H.get s2 = some (.rows false 64 [[.blk 0], [.blk 0], [.blk 0], [.blk 0], [.blk 0], [.blk 0], [.blk 0], [.blk 0]])
  nodup : nodupB [b, ds, d0, s0, d1, s1, d2, s2] = true
  new : allB (newB H0.next H.next) [b, ds, d0, s0, d1, s1, d2, s2] = true

theorem Laid3.bench {H0 H : Heap} {b ds d0 s0 d1 s1 d2 s2 : Bk} {so : Nat} (h : Laid3 H0 H b ds d0 s0 d1 s1 d2 s2 so) :
    BenchAt H b ds so [dev0 d0 s0, dev0 d1 s1, dev0 d2 s2] 0 0 false ∧ ¬ H0.Old b ∧ ¬ H0.Old ds ∧ ∀ j (hj : j < 3), Fresh H0 ([dev0 d0 s0, dev0 d1 s1, dev0 d2 s2][j]'hj).b ([dev0 d0 s0, dev0 d1 s1, dev0 d2 s2][j]'hj).y ([dev0 d0 s0, dev0 d1 s1, dev0 d2 s2][j]'hj).D := by
  have hn := nodupB_iff h.nodup
  have ha := allB_iff h.new
  have old : ∀ c ∈ [b, ds, d0, s0, d1, s1, d2, s2], ¬ H0.Old c ∧ H.Old c := fun c hc => newB_iff (ha c hc)
  simp only [List.nodup_cons, List.mem_cons, List.not_mem_nil, or_false, not_or, not_false_eq_true, List.nodup_nil, and_true] at hn
  obtain ⟨⟨n1, n2, n3, n4, n5, n6, n7⟩, ⟨n8, n9, n10, n11, n12, n13⟩, ⟨n14, n15, n16, n17, n18⟩, ⟨n19, n20, n21, n22⟩, ⟨n23, n24, n25⟩, ⟨n26, n27⟩, n28⟩ := hn
  have dv : ∀ d s, H.get d = some (.rows false 3 [[.slice (some ⟨s, 0⟩) 8 8 0, .slice none 0 0 0, .bool false]]) → H.get s = some (.rows false 64 [[.blk 0], [.blk 0], [.blk 0], [.blk 0], [.blk 0], [.blk 0], [.blk 0], [.blk 0]]) → H.Old d → H.Old s → d ≠ s → DevAt H (dev0 d s).b (dev0 d s).y (dev0 d s).D :=
    fun d s g1 g2 o1 o2 ne => ⟨g1, g2, fun _ => ⟨rfl, rfl⟩, fun e => absurd rfl e, ⟨o1, o2, fun e => absurd rfl e⟩, ne, fun e => absurd rfl e⟩
  have D0 := dv d0 s0 h.o0 h.u0 (old d0 (by simp)).2 (old s0 (by simp)).2 n14
  have D1 := dv d1 s1 h.o1 h.u1 (old d1 (by simp)).2 (old s1 (by simp)).2 n23
  have D2 := dv d2 s2 h.o2 h.u2 (old d2 (by simp)).2 (old s2 (by simp)).2 n28
  have sp : ∀ d s d' s', d ≠ d' → d ≠ s' → s ≠ d' → s ≠ s' → Sep (dev0 d s).b (dev0 d s).y (dev0 d s).D (dev0 d' s').b (dev0 d' s').y (dev0 d' s').D := by
    intro d s d' s' e1 e2 e3 e4 c h1 h2
    rcases h1 with rfl | rfl | ⟨hl, _⟩
    · rcases h2 with h2 | h2 | ⟨hl, _⟩
      · exact e1 h2
      · exact e2 h2
      · exact absurd rfl hl
    · rcases h2 with h2 | h2 | ⟨hl, _⟩
      · exact e3 h2
      · exact e4 h2
      · exact absurd rfl hl
    · exact absurd rfl hl
  have S01 := sp d0 s0 d1 s1 n15 n16 n19 n20
  have S02 := sp d0 s0 d2 s2 n17 n18 n21 n22
  have S12 := sp d1 s1 d2 s2 n24 n25 n26 n27
  have fo : ∀ d s c, c ≠ d → c ≠ s → ¬ (dev0 d s).foot c := by
    intro d s c e1 e2 hc
    rcases hc with hc | hc | ⟨hl, _⟩
    · exact e1 hc
    · exact e2 hc
    · exact absurd rfl hl
  have fr : ∀ d s, ¬ H0.Old d → ¬ H0.Old s → Fresh H0 (dev0 d s).b (dev0 d s).y (dev0 d s).D := fun d s h1 h2 => ⟨h1, h2, fun e => absurd rfl e⟩
  refine ⟨⟨h.own, h.ptrs, ?_, ?_, ⟨(old b (by simp)).2, (old ds (by simp)).2⟩, n1, ?_⟩, (old b (by simp)).1, (old ds (by simp)).1, ?_⟩
  · intro j hj
    match j, hj with
    | 0, _ => exact D0
    | 1, _ => exact D1
    | 2, _ => exact D2
    | j + 3, hj => simp at hj; omega
  · intro p q hp hq hpq
    match p, q, hp, hq with
    | 0, 0, _, _ => exact absurd rfl hpq
    | 0, 1, _, _ => exact S01
    | 0, 2, _, _ => exact S02
    | 1, 0, _, _ => exact S01.symm
    | 1, 1, _, _ => exact absurd rfl hpq
    | 1, 2, _, _ => exact S12
    | 2, 0, _, _ => exact S02.symm
    | 2, 1, _, _ => exact S12.symm
    | 2, 2, _, _ => exact absurd rfl hpq
    | p + 3, _, hp, _ => simp at hp; omega
    | _, q + 3, _, hq => simp at hq; omega
  · intro j hj
    match j, hj with
    | 0, _ => exact ⟨fo _ _ _ n2 n3, fo _ _ _ n8 n9⟩
    | 1, _ => exact ⟨fo _ _ _ n4 n5, fo _ _ _ n10 n11⟩
    | 2, _ => exact ⟨fo _ _ _ n6 n7, fo _ _ _ n12 n13⟩
    | j + 3, hj => simp at hj; omega
  · intro j hj
    match j, hj with
    | 0, _ => exact fr _ _ (old d0 (by simp)).1 (old s0 (by simp)).1
    | 1, _ => exact fr _ _ (old d1 (by simp)).1 (old s1 (by simp)).1
    | 2, _ => exact fr _ _ (old d2 (by simp)).1 (old s2 (by simp)).1

/-- what holds of an armed bench behind i steps that were tried -/
structure Armed (H0 : Heap) (b ds : Bk) (so N i : Nat) (H : Heap) (l : List Dv) (st ar : Int) (dk : Bool) : Prop where
  at' : BenchAt H b ds so l st ar dk
  len : l.length = 3
  wf : ∀ j (hj : j < l.length), Wf l[j].D 8 i ∧ l[j].D.dead = false ∧ Fresh H0 l[j].b l[j].y l[j].D
  t : Turns Z H0 H
  fb : ¬ H0.Old b
  cnt : (dk = false ∧ st = (i : Int) ∧ ((N = 0 ∧ ar = 0) ∨ (i < N ∧ ar = (N : Int) - (i : Int)))) ∨ (dk = true ∧ 0 < N ∧ N ≤ i ∧ st = (N : Int) - 1)

def told (N i : Nat) : Int := if 0 < N ∧ N ≤ i then 8 else 0

theorem Armed.ne {H0 : Heap} {b ds : Bk} {so N i : Nat} {H : Heap} {l : List Dv} {st ar : Int} {dk : Bool} (h : Armed H0 b ds so N i H l st ar dk) : l ≠ [] := fun e => by
  have := h.len
  rw [e] at this
  simp at this

theorem Armed.dark {H0 : Heap} {b ds : Bk} {so N i : Nat} {H H' : Heap} {l : List Dv} {st ar : Int} (h : Armed H0 b ds so N i H l st ar true) (k : Turns Z H H') : Armed H0 b ds so N (i + 1) H' l st ar true ∧ told N (i + 1) = 8 := by
  rcases h.cnt with ⟨h1, _⟩ | ⟨_, h2, h3, h4⟩
  · cases h1
  · exact ⟨⟨h.at'.turns k, h.len, fun j hj => ⟨(h.wf j hj).1.mono, (h.wf j hj).2⟩, h.t.trans k, h.fb, .inr ⟨rfl, h2, by omega, h4⟩⟩, if_pos ⟨h2, by omega⟩⟩

theorem Armed.cut {H0 : Heap} {b ds : Bk} {so N i : Nat} {H H' : Heap} {l : List Dv} {st ar : Int} (h : Armed H0 b ds so N i H l st ar false) (h1 : ar = 1) (hB : BenchAt H' b ds so l st 1 true) (k : Turns (fun c => c = b) H H') : Armed H0 b ds so N (i + 1) H' l st 1 true ∧ told N (i + 1) = 8 := by
  rcases h.cnt with ⟨_, h2, h3⟩ | ⟨h1, _⟩
  · have hN : 0 < N ∧ N ≤ i + 1 ∧ (N : Int) = (i : Int) + 1 := by omega
    exact ⟨⟨hB, h.len, fun j hj => ⟨(h.wf j hj).1.mono, (h.wf j hj).2⟩, Turns.after h.t k (fun c hc e => h.fb (by rw [← e]; exact hc)), h.fb, .inr ⟨rfl, hN.1, hN.2.1, by omega⟩⟩, if_pos ⟨hN.1, hN.2.1⟩⟩
  · cases h1

theorem Armed.go {H0 : Heap} {b ds : Bk} {so N i : Nat} {H H' : Heap} {l : List Dv} {st ar : Int} (h : Armed H0 b ds so N i H l st ar false) (h1 : ar ≠ 1) {d : Nat} {hd : d < l.length} {D' : Dev} {y' : Lay} (k : Did H b ds so l st ar d hd D' H' y') (hw : Wf D' 8 (i + 1)) (hdead : D'.dead = false) :
    Armed H0 b ds so N (i + 1) H' (l.set d ⟨l[d].b, y', D'⟩) (st + 1) (arLess ar) false ∧ told N (i + 1) = 0 := by
  rcases h.cnt with ⟨_, h2, h3⟩ | ⟨h1, _⟩
  · refine ⟨⟨k.at', by simpa using h.len, fun j hj => ?_, Turns.after h.t k.turns (fun c hc e => ?_), h.fb, .inl ⟨rfl, by omega, ?_⟩⟩, if_neg (by omega)⟩
    · have hj' : j < l.length := by simpa using hj
      by_cases e : d = j
      · subst e
        rw [List.getElem_set_self]
        refine ⟨hw, hdead, ?_⟩
        have fr := (h.wf d hd).2.2
        have nf : ∀ c, Foot l[d].b y' D' c → ¬ H0.Old c := fun c hc o => by
          rcases k.foot c hc with hc | hc
          · exact fr.foot c hc o
          · exact hc (o.mono h.t.next)
        exact ⟨nf _ (.inl rfl), nf _ (.inr (.inl rfl)), fun hl => nf _ (.inr (.inr ⟨hl, rfl⟩))⟩
      · rw [List.getElem_set_ne e]
        exact ⟨(h.wf j hj').1.mono, (h.wf j hj').2⟩
    · rcases e with e | e
      · exact h.fb (by rw [← e]; exact hc)
      · exact (h.wf d hd).2.2.foot c e hc
    · unfold arLess
      rcases h3 with ⟨h4, h5⟩ | ⟨h4, h5⟩
      · exact .inl ⟨h4, by rw [if_pos h5]⟩
      · refine .inr ⟨by omega, ?_⟩
        rw [if_neg (by omega)]; omega
  · cases h1

theorem Armed.write {H0 : Heap} {b ds : Bk} {so N i : Nat} {H : Heap} {l : List Dv} {st ar : Int} {dk : Bool} (h : Armed H0 b ds so N i H l st ar dk) (hN : N ≤ 64) (hi : i ≤ 60) {d q : Nat} (hd : d < 3) (hq : q < 8) (B : Nat) {lf : Nat} (hlf : 1000 < lf) (m : Nat) :
    ∃ e H' l' st' ar' dk', callS Try.prog S0 lf (m + 6) 33 [.ptr (some ⟨b, 0⟩), .int .i64 (d : Int), .int .i64 (q : Int), .blk B] H = some (.v (.int .i64 e), H') ∧ Armed H0 b ds so N (i + 1) H' l' st' ar' dk' ∧ e = told N (i + 1) := by
  cases dk with
  | true =>
    obtain ⟨v, H', e, rfl, k⟩ := bwrite_dark h.at' h.ne (d : Int) (q : Int) B lf m
    obtain ⟨k1, k2⟩ := h.dark k
    exact ⟨8, H', _, _, _, _, e, k1, k2.symm⟩
  | false =>
    have hd' : d < l.length := by rw [h.len]; exact hd
    obtain ⟨w1, w2, w3⟩ := h.wf d hd'
    have hc : code l[d].D (q : Int) = 0 := code_ok (by rw [w1.len]; omega) w2
    have hle := w1.le
    have hcn : (0 ≤ ar ∧ ar ≤ 100000) ∧ (0 ≤ st ∧ st ≤ 100000) := by
      rcases h.cnt with ⟨_, h2, h3⟩ | ⟨h1, _⟩
      · omega
      · cases h1
    obtain ⟨v, H', e, hcase⟩ := bwrite h.at' hcn.1 hcn.2 hd' (q : Int) B (lf := lf) w1.ne (by omega) (by omega) hc m
    rcases hcase with ⟨h1, rfl, hB, k⟩ | ⟨h1, rfl, y', k⟩
    · obtain ⟨k1, k2⟩ := h.cut h1 hB k
      exact ⟨8, H', _, _, _, _, e, k1, k2.symm⟩
    · have hdead : (l[d].D.write (q : Int) B).dead = false := by
        have : l[d].D.write (q : Int) B = { l[d].D with L := l[d].D.L ++ [((q : Int).toNat, B)] } := if_pos hc
        rw [this]; exact w2
      obtain ⟨k1, k2⟩ := h.go h1 k (w1.write (q : Int) B) hdead
      exact ⟨0, H', _, _, _, _, e, k1, k2.symm⟩

theorem Armed.flush {H0 : Heap} {b ds : Bk} {so N i : Nat} {H : Heap} {l : List Dv} {st ar : Int} {dk : Bool} (h : Armed H0 b ds so N i H l st ar dk) (hN : N ≤ 64) (hi : i ≤ 60) {d : Nat} (hd : d < 3) {lf : Nat} (hlf : 1000 < lf) (m : Nat) :
    ∃ e H' l' st' ar' dk', callS Try.prog S0 lf (m + 5) 32 [.ptr (some ⟨b, 0⟩), .int .i64 (d : Int)] H = some (.v (.int .i64 e), H') ∧ Armed H0 b ds so N (i + 1) H' l' st' ar' dk' ∧ e = told N (i + 1) := by
  cases dk with
  | true =>
    obtain ⟨v, H', e, rfl, k⟩ := bflush_dark h.at' h.ne (d : Int) lf m
    obtain ⟨k1, k2⟩ := h.dark k
    exact ⟨8, H', _, _, _, _, e, k1, k2.symm⟩
  | false =>
    have hd' : d < l.length := by rw [h.len]; exact hd
    obtain ⟨w1, w2, w3⟩ := h.wf d hd'
    have hle := w1.le
    have hcn : (0 ≤ ar ∧ ar ≤ 100000) ∧ (0 ≤ st ∧ st ≤ 100000) := by
      rcases h.cnt with ⟨_, h2, h3⟩ | ⟨h1, _⟩
      · omega
      · cases h1
    obtain ⟨v, H', e, hcase⟩ := bflush h.at' hcn.1 hcn.2 hd' (lf := lf) w1.ne w1.ok (by omega) (by omega) w2 m
    rcases hcase with ⟨h1, rfl, hB, k⟩ | ⟨h1, rfl, y', k⟩
    · obtain ⟨k1, k2⟩ := h.cut h1 hB k
      exact ⟨8, H', _, _, _, _, e, k1, k2.symm⟩
    · have hdead : l[d].D.flush.dead = false := by unfold Dev.flush; rw [w2]; rfl
      obtain ⟨k1, k2⟩ := h.go h1 k w1.flush hdead
      exact ⟨0, H', _, _, _, _, e, k1, k2.symm⟩

end Go.Proofs.Ytcelngepfdchiaa.disk

