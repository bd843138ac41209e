import Derived.Test.YtabebpemfinejaaG3
import Derived.Test.YtabebpemfinejaaG2
import Derived.Test.YtabebpemfinejaaAmList
set_option linter.unusedVariables false
set_option linter.unusedSimpArgs false
set_option maxRecDepth 10000
namespace Go.Proofs.Ytabebpemfinejaa.draft
open Go.Am
theorem ev_pos {C : Nat} (h : getE C = 0) : 1 ≤ sealN C := by
  have := (isSup_of h).2.1
  unfold evt at this
  simp only [Bool.and_eq_true, decide_eq_true_eq] at this
  omega
theorem put_fo (x : Option Nat) (C : Nat) : Go.Am.put (fOf x) 0 (fOf (some C)) = some (fOf (some C)) := by
  cases x with
  | none => exact put_ff (by simp) (gSt_len C) _ _ _ _ _ _ _ _ _ _ _ _ _ _
  | some D => exact put_ff (gSt_len D) (gSt_len C) _ _ _ _ _ _ _ _ _ _ _ _ _ _
theorem ev_load {H : Heap} {b : Bk} {x : Option Nat} (h : H.get b = some (.rows false 23 [fOf x])) : loadAt H ⟨b, 0⟩ 1 = some [.int .u64 (evOf x : Int)] := by
  cases x with
  | none => exact fnd_ev (H := H) (b := b) (S := List.replicate 16 0) ⟨h, by simp⟩
  | some C => exact fnd_ev (H := H) (b := b) (S := gSt C) ⟨h, gSt_len C⟩
section
variable {H : Heap} {b ds : Bk} {so : Nat} {l : List disk.Dv} {B : disk.Bn}
theorem look1 (h : disk.BRep H b ds so l B) (hl : l ≠ []) (hg : ∀ D ∈ B.l, disk.Good D) (hdk : B.dk = false) (hlen : l.length ≤ 17) {lf : Nat} (hlf : 1000 < lf) (n : Nat) {b2 b4 : Nat} {HS : Heap} (hS : Turns Z H HS) (hb : H.next ≤ b4 ∧ b4 < HS.next) (g4 : HS.get (.run b4) = some (.rows false 23 [zf])) :
    ∀ t : T, t.getP (Tr.path 0) = some (.ptr (some ⟨b, 0⟩)) → t.getP (Tr.path 2) = some (.ptr (some ⟨.run b2, 0⟩)) → t.getP (Tr.path 4) = some (.ptr (some ⟨.run b4, 0⟩)) → t.getP (Tr.path 24) = some (.int .i64 ((l.length : Int) - 1)) → t.getP (Tr.path 25) = some (.int .i64 0) →
      wp (loopF (runC (callS Try.prog S0 lf (n + 8)) lf c11_l1) lf ⟨t, HS, []⟩) fun x s => x = .ex 1 ∧ s.d = [] ∧ s.t.getP (Tr.path 0) = some (.ptr (some ⟨b, 0⟩)) ∧ s.t.getP (Tr.path 2) = some (.ptr (some ⟨.run b2, 0⟩)) ∧ s.t.getP (Tr.path 4) = some (.ptr (some ⟨.run b4, 0⟩)) ∧ Turns (fun c => c = .run b4) HS s.H ∧ s.H.get (.run b4) = some (.rows false 23 [fOf (bestC B l.length (l.length - 1))]) := by
  intro t q0 q2 q4 q24 q25
  have hN : 1 ≤ l.length := by cases l with
    | nil => exact absurd rfl hl
    | cons x xs => simp
  have hzr : zrow = [.int .u64 0, .int .i64 0, .int .i64 0, .int .i64 0, .int .i64 0, .int .u8 0, .int .u8 0, .int .u8 0, .int .u8 0, .int .u8 0, .int .u8 0, .int .u8 0, .int .u8 0, .int .u8 0, .int .u8 0, .int .u8 0, .int .u8 0, .int .u8 0, .int .u8 0, .int .u8 0, .int .u8 0, .int .i64 0, .bool false] := rfl
  refine wp_loopF (fun k s => ∃ i : Nat, k = l.length - 1 - i ∧ i ≤ l.length - 1 ∧ s.d = [] ∧ s.t.getP (Tr.path 0) = some (.ptr (some ⟨b, 0⟩)) ∧ s.t.getP (Tr.path 2) = some (.ptr (some ⟨.run b2, 0⟩)) ∧ s.t.getP (Tr.path 4) = some (.ptr (some ⟨.run b4, 0⟩)) ∧ s.t.getP (Tr.path 24) = some (.int .i64 ((l.length : Int) - 1)) ∧ s.t.getP (Tr.path 25) = some (.int .i64 (i : Int)) ∧ Turns (fun c => c = .run b4) HS s.H ∧ s.H.get (.run b4) = some (.rows false 23 [fOf (bestC B l.length i)])) ?_ lf (l.length - 1) _ ⟨0, rfl, by omega, rfl, q0, q2, q4, q24, q25, Turns.refl _ _, g4⟩ (by omega)
  rintro k ⟨t, HH, d⟩ ⟨i, rfl, hi, hd', q0, q2, q4, q24, q25, tz, gb⟩
  dsimp only at hd' q0 q2 q4 q24 q25 tz gb
  subst hd'
  by_cases hlt : i < l.length - 1
  · have hlt' : (i : Int) < (l.length : Int) - 1 := by omega
    have w1 : IntKind.i64.wrap ((i : Int) + 1) = ((i + 1 : Nat) : Int) := by rw [wrap_i64 (by omega)]; omega
    have tH : Turns Z H HH := hS.later tz (fun c ho e => by subst e; exact absurd ho (Heap.not_old hb.1))
    obtain ⟨v1, H3, e1, t3, hv⟩ := gsuper_ok (h.turns tH) hl hg hdk hlen (i : Int) hlf n
    have o4 : b4 < HH.next := Nat.lt_of_lt_of_le hb.2 tz.next
    rcases hv with ⟨hC, rfl⟩ | ⟨C, hC, rfl⟩
    · have hb1 : bestC B l.length (i + 1) = bestC B l.length i := by
        show (match gC B l.length (i : Int) with | none => bestC B l.length i | some C => if sealN C ≤ evOf (bestC B l.length i) then bestC B l.length i else some C) = _
        rw [hC]
      obtain ⟨K4, s4, _, t4, _⟩ := SRow.z.new H3
      have wz := SRow.z.width
      have g4' := ((t3.trans t4).same (.run b4) o4 id).trans gb
      obtain ⟨H4, hH4⟩ : ∃ K, H3.add (.rows false 23 [zrow]) = K := ⟨_, rfl⟩
      rw [hH4] at s4
      rw [hzr] at hH4 s4 wz e1
      simp only [c11_l1, q0, q2, q4, q24, q25, hlt', e1, hH4, s4, wz, w1, sy, tup, ↓reduceIte, Nat.reduceEqDiff, Nat.reduceAdd, Nat.reduceSub, Nat.reduceMul, Nat.reduceDiv, Nat.reduceMod, Nat.reduceLeDiff, Int.reduceBEq, reduceCtorEq]
      exact ⟨l.length - 1 - (i + 1), by omega, i + 1, rfl, by omega, trivial, by simp [q0], by simp [q2], by simp [q4], by simp [q24], by simp, tz.trans ((t3.trans t4).wide (fun c hc => hc.elim)), by rw [hb1]; exact g4'⟩
    · obtain ⟨K4, s4, g7, t4, _⟩ := (SRow.s (gSt_len C) (fld C 0 8) (fld C 13 1) (fld C 8 1) (fld C 9 2) (fld C 11 2) (fld C 18 2) (((fld C 20 1 : Nat) : Int) == 1)).new H3
      have wS := s_width (gSt_len C) (fld C 0 8) (fld C 13 1) (fld C 8 1) (fld C 9 2) (fld C 11 2) (fld C 18 2) (((fld C 20 1 : Nat) : Int) == 1)
      have g4' := ((t3.trans t4).same (.run b4) o4 id).trans gb
      have lev := ev_load g4'
      have S7 : SupAt K4 (.run H3.next) (fld C 0 8) (fld C 13 1) (fld C 8 1) (fld C 9 2) (fld C 11 2) (gSt C) (fld C 18 2) (((fld C 20 1 : Nat) : Int) == 1) := ⟨g7, gSt_len C⟩
      obtain ⟨H4, hH4⟩ : ∃ K, H3.add (.rows false 23 [zrow]) = K := ⟨_, rfl⟩
      rw [hH4] at s4
      rw [hzr] at hH4
      rw [gSup_row] at e1
      by_cases hle : sealN C ≤ evOf (bestC B l.length i)
      · have hb1 : bestC B l.length (i + 1) = bestC B l.length i := by
          show (match gC B l.length (i : Int) with | none => bestC B l.length i | some C => if sealN C ≤ evOf (bestC B l.length i) then bestC B l.length i else some C) = _
          rw [hC]; exact if_pos hle
        have hle' : ((sealN C : Nat) : Int) ≤ ((evOf (bestC B l.length i) : Nat) : Int) := by omega
        simp only [c11_l1, q0, q2, q4, q24, q25, hlt', e1, hH4, s4, wS, lev, hle', w1, sy, tup, ↓reduceIte, Nat.reduceEqDiff, Nat.reduceAdd, Nat.reduceSub, Nat.reduceMul, Nat.reduceDiv, Nat.reduceMod, Nat.reduceLeDiff, Int.reduceBEq, reduceCtorEq]
        exact ⟨l.length - 1 - (i + 1), by omega, i + 1, rfl, by omega, trivial, by simp [q0], by simp [q2], by simp [q4], by simp [q24], by simp, tz.trans ((t3.trans t4).wide (fun c hc => hc.elim)), by rw [hb1]; exact g4'⟩
      · have hb1 : bestC B l.length (i + 1) = some C := by
          show (match gC B l.length (i : Int) with | none => bestC B l.length i | some C => if sealN C ≤ evOf (bestC B l.length i) then bestC B l.length i else some C) = _
          rw [hC]; exact if_neg hle
        have hle' : ¬ ((sealN C : Nat) : Int) ≤ ((evOf (bestC B l.length i) : Nat) : Int) := by omega
        have li := sup_id S7
        have lr := sup_r S7
        have wr := r_width (gSt_len C) (fld C 8 1) (fld C 9 2) (fld C 11 2) (fld C 18 2) (((fld C 20 1 : Nat) : Int) == 1)
        have wf := f_width (gSt_len C) (sealN C) (fld C 0 8) (fld C 8 1) (fld C 9 2) (fld C 11 2) (fld C 18 2) (((fld C 20 1 : Nat) : Int) == 1)
        have pf := put_fr (gSt_len C) (sealN C) (fld C 0 8) (fld C 8 1) (fld C 9 2) (fld C 11 2) (fld C 18 2) (((fld C 20 1 : Nat) : Int) == 1)
        have st : storeAt K4 ⟨.run b4, 0⟩ (fcells (sealN C) (fld C 0 8) (fld C 8 1) (fld C 9 2) (fld C 11 2) (gSt C) (fld C 18 2) (((fld C 20 1 : Nat) : Int) == 1)) = some (K4.set (.run b4) (.rows false 23 [fOf (some C)])) := storeAt_eq g4' (r := fOf (bestC B l.length i)) (r' := fOf (some C)) rfl (put_fo _ _)
        simp only [c11_l1, q0, q2, q4, q24, q25, hlt', e1, hH4, s4, wS, lev, hle', li, lr, wr, wf, pf, st, w1, sy, tup, ↓reduceIte, Nat.reduceEqDiff, Nat.reduceAdd, Nat.reduceSub, Nat.reduceMul, Nat.reduceDiv, Nat.reduceMod, Nat.reduceLeDiff, Int.reduceBEq, reduceCtorEq]
        exact ⟨l.length - 1 - (i + 1), by omega, i + 1, rfl, by omega, trivial, by simp [q0], by simp [q2], by simp [q4], by simp [q24], by simp, (tz.trans ((t3.trans t4).wide (fun c hc => hc.elim))).setm rfl _, by rw [hb1, Heap.get_set, if_pos rfl]⟩
  · have hi' : i = l.length - 1 := by omega
    have hnl : ¬ (i : Int) < (l.length : Int) - 1 := by omega
    subst hi'
    simp only [c11_l1, q0, q2, q4, q24, q25, hnl, sy, tup, ↓reduceIte, Nat.reduceEqDiff, Nat.reduceAdd, Nat.reduceSub, Nat.reduceMul, Nat.reduceDiv, Nat.reduceMod, Nat.reduceLeDiff, Int.reduceBEq, reduceCtorEq]
    exact ⟨trivial, trivial, by first | trivial | exact q0, by first | trivial | exact q2, by first | trivial | exact q4, tz, gb⟩
end
end Go.Proofs.Ytabebpemfinejaa.draft

set_option linter.unusedVariables false
set_option linter.unusedSimpArgs false
set_option maxRecDepth 10000
namespace Go.Proofs.Ytabebpemfinejaa.draft
open Go.Am
theorem lost_keep {B : disk.Bn} {N C i : Nat} (h : keepM B N C i) : lostS B N C (i + 1) = lostS B N C i := by
  rw [lostS, if_pos h]
theorem lost_lose {B : disk.Bn} {N C i : Nat} (h : ¬ keepM B N C i) : lostS B N C (i + 1) = ((lostS B N C i).1.set i 1, if (lostS B N C i).1.getD i 0 = 2 then 0 else (lostS B N C i).2) := by
  rw [lostS, if_neg h]
theorem lost_c (B : disk.Bn) (N C i : Nat) : loseC (lostS B N C i).1 ((lostS B N C i).2 : Int) i = ((if (lostS B N C i).1.getD i 0 = 2 then 0 else (lostS B N C i).2 : Nat) : Int) := by
  unfold loseC; split <;> rfl
section
variable {H : Heap} {b ds : Bk} {so : Nat} {l : List disk.Dv} {B : disk.Bn}
theorem look2 (h : disk.BRep H b ds so l B) (hl : l ≠ []) (hg : ∀ D ∈ B.l, disk.Good D) (hdk : B.dk = false) (hlen : l.length ≤ 17) {lf : Nat} (hlf : 1000 < lf) (n : Nat) {C b2 b4 : Nat} {HS : Heap} (hS : Turns Z H HS) (hb : H.next ≤ b4 ∧ b4 < HS.next)
    (hf : fine (fld C 8 1) (fld C 9 2) (fld C 11 2) (gSt C) (fld C 18 2)) (g4 : HS.get (.run b4) = some (.rows false 23 [fcells (sealN C) (fld C 0 8) (fld C 8 1) (fld C 9 2) (fld C 11 2) (gSt C) (fld C 18 2) (((fld C 20 1 : Nat) : Int) == 1)])) :
    ∀ t : T, t.getP (Tr.path 0) = some (.ptr (some ⟨b, 0⟩)) → t.getP (Tr.path 2) = some (.ptr (some ⟨.run b2, 0⟩)) → t.getP (Tr.path 4) = some (.ptr (some ⟨.run b4, 0⟩)) → t.getP (Tr.path 57) = some (.int .i64 ((fld C 8 1 : Nat) : Int)) → t.getP (Tr.path 58) = some (.int .i64 0) →
      wp (loopF (runC (callS Try.prog S0 lf (n + 8)) lf c11_l0) lf ⟨t, HS, []⟩) fun x s => x = .ex 3 ∧ s.d = [] ∧ s.t.getP (Tr.path 2) = some (.ptr (some ⟨.run b2, 0⟩)) ∧ s.t.getP (Tr.path 4) = some (.ptr (some ⟨.run b4, 0⟩)) ∧ Turns (fun c => c = .run b4) HS s.H ∧ s.H.get (.run b4) = some (.rows false 23 [fcells (sealN C) (fld C 0 8) (fld C 8 1) (fld C 9 2) (fld C 11 2) (lostS B l.length C (fld C 8 1)).1 ((lostS B l.length C (fld C 8 1)).2 : Int) (((fld C 20 1 : Nat) : Int) == 1)]) := by
  intro t q0 q2 q4 q57 q58
  have hzr : zrow = [.int .u64 0, .int .i64 0, .int .i64 0, .int .i64 0, .int .i64 0, .int .u8 0, .int .u8 0, .int .u8 0, .int .u8 0, .int .u8 0, .int .u8 0, .int .u8 0, .int .u8 0, .int .u8 0, .int .u8 0, .int .u8 0, .int .u8 0, .int .u8 0, .int .u8 0, .int .u8 0, .int .u8 0, .int .i64 0, .bool false] := rfl
  have hM := fld_1 C 8
  generalize hMM : fld C 8 1 = M at *
  refine wp_loopF (fun k s => ∃ i : Nat, k = M - i ∧ i ≤ M ∧ s.d = [] ∧ s.t.getP (Tr.path 0) = some (.ptr (some ⟨b, 0⟩)) ∧ s.t.getP (Tr.path 2) = some (.ptr (some ⟨.run b2, 0⟩)) ∧ s.t.getP (Tr.path 4) = some (.ptr (some ⟨.run b4, 0⟩)) ∧ s.t.getP (Tr.path 57) = some (.int .i64 (M : Int)) ∧ s.t.getP (Tr.path 58) = some (.int .i64 (i : Int)) ∧ Turns (fun c => c = .run b4) HS s.H ∧ s.H.get (.run b4) = some (.rows false 23 [fcells (sealN C) (fld C 0 8) M (fld C 9 2) (fld C 11 2) (lostS B l.length C i).1 ((lostS B l.length C i).2 : Int) (((fld C 20 1 : Nat) : Int) == 1)])) ?_ lf M _ ⟨0, rfl, by omega, rfl, q0, q2, q4, q57, q58, Turns.refl _ _, g4⟩ (by omega)
  rintro k ⟨t, HH, d⟩ ⟨i, rfl, hi, hd', q0, q2, q4, q57, q58, tz, gb⟩
  dsimp only at hd' q0 q2 q4 q57 q58 tz gb
  subst hd'
  by_cases hlt : i < M
  · have hlt' : (i : Int) < (M : Int) := by omega
    have w1 : IntKind.i64.wrap ((i : Int) + 1) = ((i + 1 : Nat) : Int) := by rw [wrap_i64 (by omega)]; omega
    have tH : Turns Z H HH := hS.later tz (fun c ho e => by subst e; exact absurd ho (Heap.not_old hb.1))
    obtain ⟨v1, H3, e1, t3, hv⟩ := gsuper_ok (h.turns tH) hl hg hdk hlen (i : Int) hlf n
    have o4 : b4 < HH.next := Nat.lt_of_lt_of_le hb.2 tz.next
    have hSl := lostS_len B l.length C i
    have hSl' : ((lostS B l.length C i).1.set i 1).length = 16 := by simpa using hSl
    have hfi : fine M (fld C 9 2) (fld C 11 2) (lostS B l.length C i).1 ((lostS B l.length C i).2 : Int) := lostS_fine hf i (by omega)
    have lose : ∀ {K : Heap}, Turns Z HH K → ¬ keepM B l.length C i → ∃ v F F', loadAt K ⟨.run b4, 2⟩ 21 = some (rcells M (fld C 9 2) (fld C 11 2) (lostS B l.length C i).1 ((lostS B l.length C i).2 : Int) (((fld C 20 1 : Nat) : Int) == 1)) ∧
        callS Try.prog S0 lf (n + 8) 28 [.agg (rcells M (fld C 9 2) (fld C 11 2) (lostS B l.length C i).1 ((lostS B l.length C i).2 : Int) (((fld C 20 1 : Nat) : Int) == 1)), .int .i64 (i : Int)] K = some (.v (.tuple [.agg (rcells M (fld C 9 2) (fld C 11 2) (lostS B l.length C (i + 1)).1 ((lostS B l.length C (i + 1)).2 : Int) (((fld C 20 1 : Nat) : Int) == 1)), .bool v]), F) ∧
        storeAt F ⟨.run b4, 2⟩ (rcells M (fld C 9 2) (fld C 11 2) (lostS B l.length C (i + 1)).1 ((lostS B l.length C (i + 1)).2 : Int) (((fld C 20 1 : Nat) : Int) == 1)) = some F' ∧
        Turns (fun c => c = .run b4) HS F' ∧ F'.get (.run b4) = some (.rows false 23 [fcells (sealN C) (fld C 0 8) M (fld C 9 2) (fld C 11 2) (lostS B l.length C (i + 1)).1 ((lostS B l.length C (i + 1)).2 : Int) (((fld C 20 1 : Nat) : Int) == 1)]) := fun {K} tK hk => by
      have gK := (tK.same (.run b4) o4 id).trans gb
      obtain ⟨v, F, eF, ⟨z, rfl⟩, tF⟩ := lose_ok K (g := (((fld C 20 1 : Nat) : Int) == 1)) hSl hfi hlt' lf (n + 3) (by omega)
      have oK : b4 < K.next := Nat.lt_of_lt_of_le o4 tK.next
      have gF := (tF.same (.run b4) oK id).trans gK
      rw [lost_lose hk]
      rw [lost_c] at eF
      refine ⟨z, F, _, fnd_r (S := (lostS B l.length C i).1) ⟨gK, hSl⟩, eF, storeAt_eq gF (r := fcells (sealN C) (fld C 0 8) M (fld C 9 2) (fld C 11 2) (lostS B l.length C i).1 ((lostS B l.length C i).2 : Int) (((fld C 20 1 : Nat) : Int) == 1)) rfl (put_f hSl hSl' _ _ _ _ _ _ _ _), ?_, by rw [Heap.get_set, if_pos rfl]; rfl⟩
      exact (tz.trans ((tK.trans tF).wide (fun c hc => hc.elim))).setm rfl _
    have wr' := r_width (lostS_len B l.length C (i + 1)) M (fld C 9 2) (fld C 11 2) ((lostS B l.length C (i + 1)).2 : Int) (((fld C 20 1 : Nat) : Int) == 1)
    rcases hv with ⟨hC, rfl⟩ | ⟨D, hC, rfl⟩
    · have hk : ¬ keepM B l.length C i := fun ⟨D, hD, _⟩ => by rw [hC] at hD; cases hD
      obtain ⟨K4, s4, _, t4, _⟩ := SRow.z.new H3
      have wz := SRow.z.width
      obtain ⟨z, F, F', ll, el, sl, tF, gF⟩ := lose (t3.trans t4) hk
      obtain ⟨H4, hH4⟩ : ∃ K, H3.add (.rows false 23 [zrow]) = K := ⟨_, rfl⟩
      rw [hH4] at s4
      rw [hzr] at hH4 s4 wz e1
      simp only [c11_l0, q0, q2, q4, q57, q58, hlt', e1, hH4, s4, wz, ll, el, sl, wr', w1, sy, tup, ↓reduceIte, Nat.reduceEqDiff, Nat.reduceAdd, Nat.reduceSub, Nat.reduceMul, Nat.reduceDiv, Nat.reduceMod, Nat.reduceLeDiff, Int.reduceBEq, reduceCtorEq]
      exact ⟨M - (i + 1), by omega, i + 1, rfl, by omega, trivial, by simp [q0], by simp [q2], by simp [q4], by simp [q57], by simp, tF, gF⟩
    · obtain ⟨K4, s4, g7, t4, _⟩ := (SRow.s (gSt_len D) (fld D 0 8) (fld D 13 1) (fld D 8 1) (fld D 9 2) (fld D 11 2) (fld D 18 2) (((fld D 20 1 : Nat) : Int) == 1)).new H3
      have wS := s_width (gSt_len D) (fld D 0 8) (fld D 13 1) (fld D 8 1) (fld D 9 2) (fld D 11 2) (fld D 18 2) (((fld D 20 1 : Nat) : Int) == 1)
      have g4' := ((t3.trans t4).same (.run b4) o4 id).trans gb
      have S7 : SupAt K4 (.run H3.next) (fld D 0 8) (fld D 13 1) (fld D 8 1) (fld D 9 2) (fld D 11 2) (gSt D) (fld D 18 2) (((fld D 20 1 : Nat) : Int) == 1) := ⟨g7, gSt_len D⟩
      have F7 : FndAt K4 (.run b4) (sealN C) (fld C 0 8) M (fld C 9 2) (fld C 11 2) (lostS B l.length C i).1 ((lostS B l.length C i).2 : Int) (((fld C 20 1 : Nat) : Int) == 1) := ⟨g4', hSl⟩
      have l1 := sup_id S7
      have l2 := fnd_id F7
      have l3 : loadAt K4 ⟨.run H3.next, 2⟩ 3 = some [.int .i64 (fld D 8 1), .int .i64 (fld D 9 2), .int .i64 (fld D 11 2)] := by rw [sup_cut S7 (by omega) (by omega)]; rfl
      have l4 := fnd_g F7
      have l5 := sup_self S7
      obtain ⟨H4, hH4⟩ : ∃ K, H3.add (.rows false 23 [zrow]) = K := ⟨_, rfl⟩
      rw [hH4] at s4
      rw [hzr] at hH4
      rw [gSup_row] at e1
      have eqn : ∀ {x y : Nat}, x = y → ((x : Int) == (y : Int)) = true := fun e => by simp [e]
      have nen : ∀ {x y : Nat}, x ≠ y → ((x : Int) == (y : Int)) = false := fun e => by simpa using (fun e' => e (Int.ofNat.inj e'))
      by_cases h1' : ¬ fld D 0 8 = fld C 0 8
      · have h1 : fld D 0 8 ≠ fld C 0 8 := h1'
        have c1 := nen h1
        have hk : ¬ keepM B l.length C i := fun ⟨D', hD, k2, k3, k4⟩ => by
          rw [hC] at hD
          cases hD
          exact absurd k2 h1
        obtain ⟨z, F, F', ll, el, sl, tF, gF⟩ := lose (t3.trans t4) hk
        simp only [c11_l0, q0, q2, q4, q57, q58, hlt', e1, hH4, s4, wS, l1, l2, l3, l4, l5, c1, ll, el, sl, wr', w1, Bool.false_and, Bool.and_false, sy, tup, ↓reduceIte, Nat.reduceEqDiff, Nat.reduceAdd, Nat.reduceSub, Nat.reduceMul, Nat.reduceDiv, Nat.reduceMod, Nat.reduceLeDiff, Int.reduceBEq, reduceCtorEq]
        exact ⟨M - (i + 1), by omega, i + 1, rfl, by omega, trivial, by simp [q0], by simp [q2], by simp [q4], by simp [q57], by simp, tF, gF⟩
      have h1 : fld D 0 8 = fld C 0 8 := Classical.byContradiction h1'
      have c1 := eqn h1
      by_cases h2' : ¬ fld D 8 1 = M
      · have h2 : fld D 8 1 ≠ M := h2'
        have c2 := nen h2
        have hk : ¬ keepM B l.length C i := fun ⟨D', hD, k2, k3, k4⟩ => by
          rw [hC] at hD
          cases hD
          exact absurd (k3.1.trans hMM) h2
        obtain ⟨z, F, F', ll, el, sl, tF, gF⟩ := lose (t3.trans t4) hk
        simp only [c11_l0, q0, q2, q4, q57, q58, hlt', e1, hH4, s4, wS, l1, l2, l3, l4, l5, c1, c2, ll, el, sl, wr', w1, Bool.false_and, Bool.and_false, sy, tup, ↓reduceIte, Nat.reduceEqDiff, Nat.reduceAdd, Nat.reduceSub, Nat.reduceMul, Nat.reduceDiv, Nat.reduceMod, Nat.reduceLeDiff, Int.reduceBEq, reduceCtorEq]
        exact ⟨M - (i + 1), by omega, i + 1, rfl, by omega, trivial, by simp [q0], by simp [q2], by simp [q4], by simp [q57], by simp, tF, gF⟩
      have h2 : fld D 8 1 = M := Classical.byContradiction h2'
      have c2 := eqn h2
      by_cases h3' : ¬ fld D 9 2 = fld C 9 2
      · have h3 : fld D 9 2 ≠ fld C 9 2 := h3'
        have c3 := nen h3
        have hk : ¬ keepM B l.length C i := fun ⟨D', hD, k2, k3, k4⟩ => by
          rw [hC] at hD
          cases hD
          exact absurd k3.2.1 h3
        obtain ⟨z, F, F', ll, el, sl, tF, gF⟩ := lose (t3.trans t4) hk
        simp only [c11_l0, q0, q2, q4, q57, q58, hlt', e1, hH4, s4, wS, l1, l2, l3, l4, l5, c1, c2, c3, ll, el, sl, wr', w1, Bool.false_and, Bool.and_false, sy, tup, ↓reduceIte, Nat.reduceEqDiff, Nat.reduceAdd, Nat.reduceSub, Nat.reduceMul, Nat.reduceDiv, Nat.reduceMod, Nat.reduceLeDiff, Int.reduceBEq, reduceCtorEq]
        exact ⟨M - (i + 1), by omega, i + 1, rfl, by omega, trivial, by simp [q0], by simp [q2], by simp [q4], by simp [q57], by simp, tF, gF⟩
      have h3 : fld D 9 2 = fld C 9 2 := Classical.byContradiction h3'
      have c3 := eqn h3
      by_cases h4' : ¬ fld D 11 2 = fld C 11 2
      · have h4 : fld D 11 2 ≠ fld C 11 2 := h4'
        have c4 := nen h4
        have hk : ¬ keepM B l.length C i := fun ⟨D', hD, k2, k3, k4⟩ => by
          rw [hC] at hD
          cases hD
          exact absurd k3.2.2 h4
        obtain ⟨z, F, F', ll, el, sl, tF, gF⟩ := lose (t3.trans t4) hk
        simp only [c11_l0, q0, q2, q4, q57, q58, hlt', e1, hH4, s4, wS, l1, l2, l3, l4, l5, c1, c2, c3, c4, ll, el, sl, wr', w1, Bool.false_and, Bool.and_false, sy, tup, ↓reduceIte, Nat.reduceEqDiff, Nat.reduceAdd, Nat.reduceSub, Nat.reduceMul, Nat.reduceDiv, Nat.reduceMod, Nat.reduceLeDiff, Int.reduceBEq, reduceCtorEq]
        exact ⟨M - (i + 1), by omega, i + 1, rfl, by omega, trivial, by simp [q0], by simp [q2], by simp [q4], by simp [q57], by simp, tF, gF⟩
      have h4 : fld D 11 2 = fld C 11 2 := Classical.byContradiction h4'
      have c4 := eqn h4
      by_cases h5' : ¬ fld D 13 1 = i
      · have h5 : fld D 13 1 ≠ i := h5'
        have c5 := nen h5
        have hk : ¬ keepM B l.length C i := fun ⟨D', hD, k2, k3, k4⟩ => by
          rw [hC] at hD
          cases hD
          exact absurd k4 h5
        obtain ⟨z, F, F', ll, el, sl, tF, gF⟩ := lose (t3.trans t4) hk
        simp only [c11_l0, q0, q2, q4, q57, q58, hlt', e1, hH4, s4, wS, l1, l2, l3, l4, l5, c1, c2, c3, c4, c5, ll, el, sl, wr', w1, Bool.false_and, Bool.and_false, sy, tup, ↓reduceIte, Nat.reduceEqDiff, Nat.reduceAdd, Nat.reduceSub, Nat.reduceMul, Nat.reduceDiv, Nat.reduceMod, Nat.reduceLeDiff, Int.reduceBEq, reduceCtorEq]
        exact ⟨M - (i + 1), by omega, i + 1, rfl, by omega, trivial, by simp [q0], by simp [q2], by simp [q4], by simp [q57], by simp, tF, gF⟩
      have h5 : fld D 13 1 = i := Classical.byContradiction h5'
      have c5 := eqn h5
      have hk : keepM B l.length C i := ⟨D, hC, h1, ⟨by rw [hMM]; exact h2, h3, h4⟩, h5⟩
      simp only [c11_l0, q0, q2, q4, q57, q58, hlt', e1, hH4, s4, wS, l1, l2, l3, l4, l5, c1, c2, c3, c4, c5, w1, sy, tup, ↓reduceIte, Nat.reduceEqDiff, Nat.reduceAdd, Nat.reduceSub, Nat.reduceMul, Nat.reduceDiv, Nat.reduceMod, Nat.reduceLeDiff, Int.reduceBEq, reduceCtorEq]
      exact ⟨M - (i + 1), by omega, i + 1, rfl, by omega, trivial, by simp [q0], by simp [q2], by simp [q4], by simp [q57], by simp, tz.trans ((t3.trans t4).wide (fun c hc => hc.elim)), by rw [lost_keep hk]; exact g4'⟩
  · have hi' : i = M := by omega
    have hnl : ¬ (i : Int) < (M : Int) := by omega
    subst hi'
    simp only [c11_l0, q0, q2, q4, q57, q58, hnl, sy, tup, ↓reduceIte, Nat.reduceEqDiff, Nat.reduceAdd, Nat.reduceSub, Nat.reduceMul, Nat.reduceDiv, Nat.reduceMod, Nat.reduceLeDiff, Int.reduceBEq, reduceCtorEq]
    exact ⟨trivial, trivial, by first | trivial | exact q2, by first | trivial | exact q4, tz, gb⟩
end
end Go.Proofs.Ytabebpemfinejaa.draft

set_option linter.unusedVariables false
set_option linter.unusedSimpArgs false
set_option maxRecDepth 10000
namespace Go.Proofs.Ytabebpemfinejaa.draft
open Go.Am
noncomputable def foundC (B : disk.Bn) (N C : Nat) : V := fnd (sealN C) (fld C 0 8) (fld C 8 1) (fld C 9 2) (fld C 11 2) (lostS B N C (fld C 8 1)).1 ((lostS B N C (fld C 8 1)).2 : Int) (((fld C 20 1 : Nat) : Int) == 1)
theorem look_ok {H : Heap} {b ds : Bk} {so : Nat} {l : List disk.Dv} {B : disk.Bn} (h : disk.BRep H b ds so l B) (hl : l ≠ []) (hg : ∀ D ∈ B.l, disk.Good D) (hdk : B.dk = false) (hlen : l.length ≤ 17) {lf : Nat} (hlf : 1000 < lf) (n : Nat) :
    ret (callS Try.prog S0 lf (n + 9) 11 [.ptr (some ⟨b, 0⟩)] H) fun v H' => Turns Z H H' ∧
      ((bestC B l.length (l.length - 1) = none ∧ v = .tuple [.agg zf, .int .i64 7]) ∨ ∃ C, bestC B l.length (l.length - 1) = some C ∧ v = .tuple [foundC B l.length C, .int .i64 0]) := by
  have hzf : zf = [.int .u64 0, .int .u64 0, .int .i64 0, .int .i64 0, .int .i64 0, .int .u8 0, .int .u8 0, .int .u8 0, .int .u8 0, .int .u8 0, .int .u8 0, .int .u8 0, .int .u8 0, .int .u8 0, .int .u8 0, .int .u8 0, .int .u8 0, .int .u8 0, .int .u8 0, .int .u8 0, .int .u8 0, .int .i64 0, .bool false] := rfl
  have hN : 1 ≤ l.length := by cases l with
    | nil => exact absurd rfl hl
    | cons x xs => simp
  have t1 := Turns.add Z H (.rows false 23 [zf])
  have hg1 : (H.add (.rows false 23 [zf])).get (.run H.next) = some (.rows false 23 [zf]) := by rw [Heap.get_add, if_pos rfl]
  have hn1 : (H.add (.rows false 23 [zf])).next = H.next + 1 := by simp
  obtain ⟨H1, hH1⟩ : ∃ K, H.add (.rows false 23 [zf]) = K := ⟨_, rfl⟩
  rw [hH1] at t1 hg1 hn1
  have e1 : callS Try.prog S0 lf (n + 8) 19 [.ptr (some ⟨b, 0⟩)] H1 = _ := bench_devs (h.turns t1) hl lf (n + 6)
  have e2 : callS Try.prog S0 lf (n + 8) 31 [.ptr (some ⟨b, 0⟩)] H1 = some (.v (.bool false), H1) := by rw [← hdk]; exact disk.bdark (h.turns t1).at' hl lf (n + 6)
  have b0 : ((l.length : Int) == 0) = false := by simp; exact hl
  have w1 : IntKind.i64.wrap ((l.length : Int) - 1) = (l.length : Int) - 1 := wrap_i64 (by omega)
  have t2 := Turns.add Z H1 (.rows false 23 [zf])
  have hg2 : (H1.add (.rows false 23 [zf])).get (.run (H.next + 1)) = some (.rows false 23 [zf]) := by rw [Heap.get_add, if_pos (by rw [hn1])]
  have hn2 : (H1.add (.rows false 23 [zf])).next = H.next + 2 := by simp [hn1]
  obtain ⟨H2, hH2⟩ : ∃ K, H1.add (.rows false 23 [zf]) = K := ⟨_, rfl⟩
  rw [hH2] at t2 hg2 hn2
  have g2 : H2.get (.run H.next) = some (.rows false 23 [zf]) := (t2.same (.run H.next) (by show _ < _; omega) id).trans hg1
  have e3 : callS Try.prog S0 lf (n + 8) 19 [.ptr (some ⟨b, 0⟩)] H2 = _ := bench_devs (h.turns (t1.trans t2)) hl lf (n + 6)
  have L1 := look1 h hl hg hdk hlen hlf n (b2 := H.next) (b4 := H.next + 1) (t1.trans t2) ⟨by omega, by omega⟩ hg2
  have zH1 := hH1
  have zH2 := hH2
  rw [hzf] at zH1 zH2
  refine ret_call rfl c11_eq ?_
  simp only [c11, zH1, e1, e2, b0, zH2, hn1, e3, w1, sy, tup, ↓reduceIte, Nat.reduceEqDiff, Nat.reduceAdd, Nat.reduceSub, Nat.reduceMul, Nat.reduceDiv, Nat.reduceMod, Nat.reduceLeDiff, Int.reduceBEq, reduceCtorEq]
  refine wp_ctx (F := fun r => seqC _ _ _ (blockC _ r)) (L1 _ ?_ ?_ ?_ ?_ ?_) ?_
  · simp only [sy, tup, ↓reduceIte, Nat.reduceEqDiff, Nat.reduceAdd, Nat.reduceSub, Nat.reduceMul, Nat.reduceDiv, Nat.reduceMod, Nat.reduceLeDiff, Int.reduceBEq, reduceCtorEq]
  · simp only [sy, tup, ↓reduceIte, Nat.reduceEqDiff, Nat.reduceAdd, Nat.reduceSub, Nat.reduceMul, Nat.reduceDiv, Nat.reduceMod, Nat.reduceLeDiff, Int.reduceBEq, reduceCtorEq]
  · simp only [sy, tup, ↓reduceIte, Nat.reduceEqDiff, Nat.reduceAdd, Nat.reduceSub, Nat.reduceMul, Nat.reduceDiv, Nat.reduceMod, Nat.reduceLeDiff, Int.reduceBEq, reduceCtorEq]
  · simp only [sy, tup, ↓reduceIte, Nat.reduceEqDiff, Nat.reduceAdd, Nat.reduceSub, Nat.reduceMul, Nat.reduceDiv, Nat.reduceMod, Nat.reduceLeDiff, Int.reduceBEq, reduceCtorEq]
  · simp only [sy, tup, ↓reduceIte, Nat.reduceEqDiff, Nat.reduceAdd, Nat.reduceSub, Nat.reduceMul, Nat.reduceDiv, Nat.reduceMod, Nat.reduceLeDiff, Int.reduceBEq, reduceCtorEq]
  rintro x ⟨t, HH, d⟩ ⟨rfl, hd', q0, q2, q4, tz, gb⟩
  dsimp only at hd' q0 q2 q4 tz gb
  subst hd'
  have tH : Turns Z H HH := (t1.trans t2).later tz (fun c ho e => by subst e; exact absurd ho (Heap.not_old (by omega)))
  have gA : HH.get (.run H.next) = some (.rows false 23 [zf]) := (tz.same (.run H.next) (by show _ < _; omega) (run_ne (by omega))).trans g2
  have nH : H.next + 2 ≤ HH.next := by have := tz.next; omega
  have ans : ∀ {K : Heap} {row : List V}, K.get (.run H.next) = some (.rows false 23 [zf]) → Turns Z H K → row.length = 23 → Thin row → Go.Am.put zf 0 row = some row → ∃ F, storeAt K ⟨.run H.next, 0⟩ row = some F ∧ loadAt F ⟨.run H.next, 0⟩ 23 = some row ∧ Turns Z H F := fun {K row} gK tK hr ht hp => by
    refine ⟨_, storeAt_eq gK (r := zf) (r' := row) rfl hp, ?_, tK.setnew (Nat.le_refl _) _⟩
    rw [loadAt_eq (b := .run H.next) (r := row) (by rw [Heap.get_set, if_pos rfl]) rfl, cut_thin ht (by omega)]
    simp [← hr]
  cases hC : bestC B l.length (l.length - 1) with
  | none =>
    rw [hC] at gb
    have lev : loadAt HH ⟨.run (H.next + 1), 0⟩ 1 = some [.int .u64 0] := ev_load gb
    obtain ⟨F, sf, lf', tF⟩ := ans (row := zf) gA tH rfl (f_thin 0 0 0 0 0 (List.replicate 16 0) 0 false) (put_ff (by simp) (by simp) _ _ _ _ _ _ _ _ _ _ _ _ _ _)
    have wz : width zf = 23 := f_width (by simp) _ _ _ _ _ _ _
    rw [hzf] at sf lf' wz
    simp only [q0, q2, q4, lev, sf, lf', wz, sy, tup, ↓reduceIte, Nat.reduceEqDiff, Nat.reduceAdd, Nat.reduceSub, Nat.reduceMul, Nat.reduceDiv, Nat.reduceMod, Nat.reduceLeDiff, Int.reduceBEq, reduceCtorEq]
    exact ⟨trivial, .inr trivial, _, rfl, tF, .inl ⟨trivial, by rw [hzf]⟩⟩
  | some C =>
    rw [hC] at gb
    obtain ⟨i, hi, hgC⟩ := bestC_ok hC
    have hE := (gC_ok hgC).1
    have hpos := ev_pos hE
    have hf := (isSup_of hE).2.2.1.2.2.2
    have hF : FndAt HH (.run (H.next + 1)) (sealN C) (fld C 0 8) (fld C 8 1) (fld C 9 2) (fld C 11 2) (gSt C) (fld C 18 2) (((fld C 20 1 : Nat) : Int) == 1) := ⟨gb, gSt_len C⟩
    have lev := fnd_ev hF
    have lm := fnd_m hF
    have hz : (((sealN C : Nat) : Int) == 0) = false := by simp; omega
    have L2 := look2 h hl hg hdk hlen hlf n (b2 := H.next) (b4 := H.next + 1) tH ⟨by omega, by omega⟩ hf gb
    simp only [q0, q2, q4, lev, hz, lm, sy, tup, ↓reduceIte, Nat.reduceEqDiff, Nat.reduceAdd, Nat.reduceSub, Nat.reduceMul, Nat.reduceDiv, Nat.reduceMod, Nat.reduceLeDiff, Int.reduceBEq, reduceCtorEq]
    refine wp_ctx (F := fun r => seqC _ _ _ (blockC _ r)) (L2 _ ?_ ?_ ?_ ?_ ?_) ?_
    · simp only [q0, sy, tup, ↓reduceIte, Nat.reduceEqDiff, Nat.reduceAdd, Nat.reduceSub, Nat.reduceMul, Nat.reduceDiv, Nat.reduceMod, Nat.reduceLeDiff, Int.reduceBEq, reduceCtorEq]
    · simp only [q2, sy, tup, ↓reduceIte, Nat.reduceEqDiff, Nat.reduceAdd, Nat.reduceSub, Nat.reduceMul, Nat.reduceDiv, Nat.reduceMod, Nat.reduceLeDiff, Int.reduceBEq, reduceCtorEq]
    · simp only [q4, sy, tup, ↓reduceIte, Nat.reduceEqDiff, Nat.reduceAdd, Nat.reduceSub, Nat.reduceMul, Nat.reduceDiv, Nat.reduceMod, Nat.reduceLeDiff, Int.reduceBEq, reduceCtorEq]
    · simp only [sy, tup, ↓reduceIte, Nat.reduceEqDiff, Nat.reduceAdd, Nat.reduceSub, Nat.reduceMul, Nat.reduceDiv, Nat.reduceMod, Nat.reduceLeDiff, Int.reduceBEq, reduceCtorEq]
    · simp only [sy, tup, ↓reduceIte, Nat.reduceEqDiff, Nat.reduceAdd, Nat.reduceSub, Nat.reduceMul, Nat.reduceDiv, Nat.reduceMod, Nat.reduceLeDiff, Int.reduceBEq, reduceCtorEq]
    rintro x ⟨t', HK, d⟩ ⟨rfl, hd', q2, q4, tz2, gb2⟩
    dsimp only at hd' q2 q4 tz2 gb2
    subst hd'
    have tK : Turns Z H HK := tH.later tz2 (fun c ho e => by subst e; exact absurd ho (Heap.not_old (by omega)))
    have gA2 : HK.get (.run H.next) = some (.rows false 23 [zf]) := (tz2.same (.run H.next) (by show _ < _; omega) (run_ne (by omega))).trans gA
    have hSl := lostS_len B l.length C (fld C 8 1)
    have la := fnd_all (H := HK) (b := .run (H.next + 1)) (S := (lostS B l.length C (fld C 8 1)).1) ⟨gb2, hSl⟩
    have wf := f_width hSl (sealN C) (fld C 0 8) (fld C 8 1) (fld C 9 2) (fld C 11 2) ((lostS B l.length C (fld C 8 1)).2 : Int) (((fld C 20 1 : Nat) : Int) == 1)
    obtain ⟨F, sf, lf', tF⟩ := ans gA2 tK (f_len hSl (sealN C) (fld C 0 8) (fld C 8 1) (fld C 9 2) (fld C 11 2) ((lostS B l.length C (fld C 8 1)).2 : Int) (((fld C 20 1 : Nat) : Int) == 1)) (f_thin _ _ _ _ _ _ _ _) (put_ff (by simp) hSl _ _ _ _ _ _ _ _ _ _ _ _ _ _)
    simp only [q2, q4, la, wf, sf, lf', sy, tup, ↓reduceIte, Nat.reduceEqDiff, Nat.reduceAdd, Nat.reduceSub, Nat.reduceMul, Nat.reduceDiv, Nat.reduceMod, Nat.reduceLeDiff, Int.reduceBEq, reduceCtorEq]
    exact ⟨trivial, .inr trivial, _, rfl, tF, .inr ⟨C, rfl, rfl⟩⟩
end Go.Proofs.Ytabebpemfinejaa.draft

set_option linter.unusedVariables false
set_option linter.unusedSimpArgs false
set_option maxRecDepth 10000
namespace Go.Proofs.Ytabebpemfinejaa.draft
open Go.Am
def rowsN (l : List Nat) : List (List V) := l.map fun c : Nat => [V.int .u8 (c : Int)]
theorem rowsN_len (l : List Nat) : (rowsN l).length = l.length := by unfold rowsN; simp
theorem rowsN_app (l k : List Nat) : rowsN (l ++ k) = rowsN l ++ rowsN k := by unfold rowsN; simp
def digs (n : Nat) : Nat → List Nat
  | 0 => []
  | i + 1 => digs n i ++ [n / 256 ^ i % 256]
theorem digs_len (n : Nat) : ∀ i, (digs n i).length = i
  | 0 => rfl
  | i + 1 => by simp [digs, digs_len n i]
theorem digs_lt (n : Nat) : ∀ i, ∀ x ∈ digs n i, x < 256
  | 0, x, h => by cases h
  | i + 1, x, h => by
    simp only [digs, List.mem_append, List.mem_singleton] at h
    rcases h with h | h
    · exact digs_lt n i x h
    · subst h; exact Nat.mod_lt _ (by decide)
theorem lst_away {H0 HH H' H : Heap} {sz : Nat} {R : List (List V)} {y : V} (hy : Lst H0 HH sz R y) (t : Turns Z H HH) (h0 : H.next ≤ H0.next) (k : Turns (Bof y) HH H') : Turns Z H H' :=
  t.later k (fun c hc hb => by
    obtain ⟨_, rfl, h1, _⟩ := hy.bof hb
    exact absurd hc (Heap.not_old (Nat.le_trans h0 h1)))
def putB (n s : Nat) : List Nat := if n / 256 ^ s = 0 then digs n s else []
theorem putB_le (n s : Nat) : (putB n s).length ≤ s := by
  unfold putB
  split
  · rw [digs_len]; omega
  · simp
theorem putB_lt (n s : Nat) : ∀ x ∈ putB n s, x < 256 := by
  unfold putB
  split
  · exact digs_lt n s
  · intro x h; cases h
theorem appL {H0 H1 HH : Heap} {R Q : List (List V)} {y x : V} (hy : Lst H0 HH 1 R y) (hx : Lst H1 HH 1 Q x) (hQ : ∀ r ∈ Q, ∃ c : Nat, r = [V.int .u8 (c : Int)]) (t : H0.next ≤ HH.next) (hl : R.length + Q.length ≤ 100000) : ∃ v H', appendV 1 1 HH y x = some (v, H') ∧ Lst H0 H' 1 (R ++ Q) v ∧ Turns (Bof y) HH H' := by
  rcases hx with ⟨rfl, rfl⟩ | ⟨k, hne, rfl, hg, h1, h2⟩
  · obtain ⟨p, c, o, rfl⟩ := hy.val
    refine ⟨_, HH, ?_, by simpa using hy, Turns.refl _ _⟩
    have hb : Nat.ble R.length c = true := by
      rcases hy with ⟨rfl, e⟩ | ⟨n, _, e, _⟩
      · cases e; rfl
      · cases e; exact ble_iff.2 (Nat.le_refl _)
    unfold appendV
    simp only [lenOf, List.length_nil, show Nat.beq 0 0 = true from rfl, hb]
  · have hf : firstE HH 1 (.slice (some ⟨.run k, 0⟩) Q.length Q.length 1) = some Q := by
      have : ∀ (L : List (List V)) (a : Nat), (∀ i, i < L.length → ∃ c : Nat, Q[a + i]? = L[i]? ∧ L[i]? = some [V.int .u8 (c : Int)]) → elems HH (.run k) 1 L.length a = some L := by
        intro L
        induction L with
        | nil => intro a _; rfl
        | cons r L ih =>
          intro a h
          obtain ⟨c, e1, e2⟩ := h 0 (by simp)
          simp only [List.getElem?_cons_zero, Option.some.injEq] at e2
          subst e2
          rw [Nat.add_zero] at e1
          simp only [List.getElem?_cons_zero] at e1
          have lk : loadAt HH ⟨.run k, a⟩ 1 = some [.int .u8 (c : Int)] := by
            rw [loadAt_eq hg (r := [.int .u8 (c : Int)]) (by rw [Nat.div_one, nth_eq]; exact e1), Nat.mod_one]
            rfl
          show elems HH (.run k) 1 (L.length + 1) a = _
          unfold elems
          rw [lk]
          simp only
          rw [show Nat.add a 1 = a + 1 from rfl, ih (a + 1) (fun i hi => by
            obtain ⟨c', e3, e4⟩ := h (i + 1) (by simp; omega)
            refine ⟨c', ?_, by simpa using e4⟩
            rw [show a + 1 + i = a + (i + 1) by omega, e3]; simp)]
          rfl
      show elems HH (.run k) 1 Q.length 0 = some Q
      exact this Q 0 (fun i hi => by
        obtain ⟨c, hc⟩ := hQ _ (List.getElem_mem hi)
        exact ⟨c, by rw [Nat.zero_add], by rw [List.getElem?_eq_getElem hi, hc]⟩)
    obtain ⟨H', ea, hv, ta, _⟩ := hy.app (by' := 1) t hf rfl hne (by decide) (by omega) (by omega)
    exact ⟨_, H', ea, hv, ta⟩
theorem rowsN_bytes (l : List Nat) : ∀ r ∈ rowsN l, ∃ c : Nat, r = [V.int .u8 (c : Int)] := by
  intro r h
  unfold rowsN at h
  obtain ⟨c, _, e⟩ := List.mem_map.1 h
  exact ⟨c, e.symm⟩
end Go.Proofs.Ytabebpemfinejaa.draft

set_option linter.unusedVariables false
set_option linter.unusedSimpArgs false
set_option maxRecDepth 10000
namespace Go.Proofs.Ytabebpemfinejaa.draft
open Go.Am
theorem rem_u8 (a b : Nat) (hb : b ≠ 0) : arith .rem (.int .u8 (a : Int)) (.int .u8 (b : Int)) = some (.int .u8 ((a % b : Nat) : Int)) := by
  have h0 : eqI (b : Int) 0 = false := by
    rw [C7]; simpa using hb
  show (match eqI (b : Int) 0 with | true => none | false => frc (remI (a : Int) (b : Int)) fun n => some (V.int .u8 n)) = _
  rw [h0]
  show frc (((a % b : Nat)) : Int) _ = _
  generalize a % b = z
  cases z <;> rfl
def bitOf (S : Nat → Nat) (j : Nat) : Nat := S (j / 2) / 2 ^ (j % 2) % 2
theorem bitOf_lt (S : Nat → Nat) (j : Nat) : bitOf S j < 2 := Nat.mod_lt _ (by decide)
def packN (f : Nat → Nat) : Nat → Nat
  | 0 => 0
  | m + 1 => 2 * packN f m + f (7 - m)
theorem packN_lt {f : Nat → Nat} (h : ∀ i, f i < 2) : ∀ m, packN f m < 2 ^ m
  | 0 => by show 0 < 1; decide
  | m + 1 => by
    have a := packN_lt h m
    have b := h (7 - m)
    show 2 * packN f m + f (7 - m) < 2 ^ (m + 1)
    rw [Nat.pow_succ]
    omega
def outB (S : Nat → Nat) (q : Nat) : Nat := packN (fun k => bitOf S (8 * q + k)) 8
theorem outB_lt (S : Nat → Nat) (q : Nat) : outB S q < 256 := packN_lt (fun i => bitOf_lt S _) 8
def outs (S : Nat → Nat) : Nat → List Nat
  | 0 => []
  | q + 1 => outs S q ++ [outB S q]
theorem outs_len (S : Nat → Nat) : ∀ q, (outs S q).length = q
  | 0 => rfl
  | q + 1 => by simp [outs, outs_len S q]
theorem rowsN_get {l : List Nat} {i x : Nat} (h : l[i]? = some x) : (rowsN l)[i]? = some [.int .u8 (x : Int)] := by
  unfold rowsN
  rw [List.getElem?_map, h]; rfl
end Go.Proofs.Ytabebpemfinejaa.draft

set_option linter.unusedVariables false
set_option linter.unusedSimpArgs false
set_option maxRecDepth 10000
namespace Go.Proofs.Ytabebpemfinejaa.draft
open Go.Am
end Go.Proofs.Ytabebpemfinejaa.draft

set_option linter.unusedVariables false
set_option linter.unusedSimpArgs false
set_option maxRecDepth 10000
namespace Go.Proofs.Ytabebpemfinejaa.draft
open Go.Am
noncomputable def fillN (f : Nat → Nat) : Nat → Nat
  | 0 => 0
  | i + 1 => setByte (fillN f i) i (f i)
theorem fillN_lt {f : Nat → Nat} (h : ∀ i, f i < 256) : ∀ n, n ≤ 64 → fillN f n < 256 ^ 64
  | 0, _ => by show 0 < _; decide +kernel
  | n + 1, hn => setByte_lt _ _ _ (h n) (by omega) (fillN_lt h n (by omega))
theorem byte_fillN {f : Nat → Nat} (h : ∀ i, f i < 256) : ∀ n j, byte (fillN f n) j = if j < n then f j else byte 0 j
  | 0, j => rfl
  | n + 1, j => by
    show byte (setByte (fillN f n) n (f n)) j = _
    rw [byte_setByte _ _ _ _ (h n), byte_fillN h n j]
    by_cases e : j = n
    · subst e; simp
    · rw [if_neg e]
      by_cases h2 : j < n
      · rw [if_pos h2, if_pos (by omega)]
      · rw [if_neg h2, if_neg (by omega)]
noncomputable def headOf (N : Nat) (l : List Nat) : List Nat := digs N 8 ++ (l ++ List.replicate (44 - l.length) 0)
noncomputable def sumOf (N : Nat) (l : List Nat) : Nat := notN (crcN (fun i => (headOf N l).getD i 0) 52)
noncomputable def rowOf (N : Nat) (l : List Nat) : List Nat := (headOf N l ++ digs (sumOf N l) 4) ++ digs N 8
noncomputable def blkOf (N : Nat) (l : List Nat) : Nat := fillN (fun i => (rowOf N l).getD i 0) 64
theorem head_len {N : Nat} {l : List Nat} (h : l.length ≤ 44) : (headOf N l).length = 52 := by
  unfold headOf
  rw [List.length_append, List.length_append, digs_len, List.length_replicate]; omega
theorem row_len {N : Nat} {l : List Nat} (h : l.length ≤ 44) : (rowOf N l).length = 64 := by
  unfold rowOf
  rw [List.length_append, List.length_append, digs_len, digs_len, head_len h]
theorem head_lt {N : Nat} {l : List Nat} (h : ∀ x ∈ l, x < 256) : ∀ x ∈ headOf N l, x < 256 := by
  intro x hx
  unfold headOf at hx
  rcases List.mem_append.1 hx with h1 | h1
  · exact digs_lt N 8 x h1
  · rcases List.mem_append.1 h1 with h2 | h2
    · exact h x h2
    · rw [(List.mem_replicate.1 h2).2]; decide
theorem row_lt {N : Nat} {l : List Nat} (h : ∀ x ∈ l, x < 256) : ∀ x ∈ rowOf N l, x < 256 := by
  intro x hx
  unfold rowOf at hx
  rcases List.mem_append.1 hx with h1 | h1
  · rcases List.mem_append.1 h1 with h2 | h2
    · exact head_lt h x h2
    · exact digs_lt _ 4 x h2
  · exact digs_lt N 8 x h1
theorem getD_lt {l : List Nat} (h : ∀ x ∈ l, x < 256) (i : Nat) : l.getD i 0 < 256 := by
  rw [List.getD_eq_getElem?_getD]
  cases e : l[i]? with
  | none => decide
  | some x => exact h x (List.mem_of_getElem? e)
theorem getD_some {l : List Nat} {i : Nat} (h : i < l.length) : l[i]? = some (l.getD i 0) := by
  rw [List.getD_eq_getElem?_getD, List.getElem?_eq_getElem h]; rfl
theorem bload {H0 H : Heap} {l : List Nat} {v : V} (h : Lst H0 H 1 (rowsN l) v) (hne : l ≠ []) : ∃ k, v = .slice (some ⟨.run k, 0⟩) l.length l.length 1 ∧ k < H.next ∧ ∀ i, i < l.length → loadAt H ⟨.run k, i⟩ 1 = some [.int .u8 ((l.getD i 0 : Nat) : Int)] := by
  have hv := h
  rcases hv with ⟨e, _⟩ | ⟨k, _, rfl, hg, h1, h2⟩
  · exact absurd (List.map_eq_nil_iff.1 e) hne
  refine ⟨k, by rw [rowsN_len], h2, fun i hi => ?_⟩
  obtain ⟨k', e', lk⟩ := h.load (o := 0) (k := 1) (rowsN_get (getD_some hi)) (by omega)
  cases e'
  rw [Nat.mul_one, Nat.add_zero] at lk
  exact lk.trans rfl
end Go.Proofs.Ytabebpemfinejaa.draft

set_option linter.unusedVariables false
set_option linter.unusedSimpArgs false
set_option maxRecDepth 10000
namespace Go.Proofs.Ytabebpemfinejaa.draft
open Go.Am
section
variable {H : Heap} {b : Bk} {id me m s r : Int} {S : List Nat} {c : Int} {g : Bool} (h : SupAt H b id me m s r S c g)
include h
end
def bodyN (id me m s r : Nat) (S : List Nat) (c : Nat) (g : Bool) : List Nat :=
  ((((((putB id 8 ++ putB m 1) ++ putB s 2) ++ putB r 2) ++ putB me 1) ++ outs (fun i => S.getD i 0) 4) ++ putB c 2) ++ [if g then 1 else 0]
theorem bodyN_le (id me m s r : Nat) (S : List Nat) (c : Nat) (g : Bool) : (bodyN id me m s r S c g).length ≤ 44 := by
  unfold bodyN
  simp only [List.length_append, List.length_singleton, outs_len]
  have := putB_le id 8
  have := putB_le m 1
  have := putB_le s 2
  have := putB_le r 2
  have := putB_le me 1
  have := putB_le c 2
  omega
theorem outs_lt (S : Nat → Nat) : ∀ q, ∀ x ∈ outs S q, x < 256
  | 0, x, h => by cases h
  | q + 1, x, h => by
    simp only [outs, List.mem_append, List.mem_singleton] at h
    rcases h with h | h
    · exact outs_lt S q x h
    · subst h; exact outB_lt S q
theorem bodyN_lt (id me m s r : Nat) (S : List Nat) (c : Nat) (g : Bool) : ∀ x ∈ bodyN id me m s r S c g, x < 256 := by
  intro x hx
  unfold bodyN at hx
  simp only [List.mem_append, List.mem_singleton] at hx
  rcases hx with ((((((h | h) | h) | h) | h) | h) | h) | h
  · exact putB_lt _ _ x h
  · exact putB_lt _ _ x h
  · exact putB_lt _ _ x h
  · exact putB_lt _ _ x h
  · exact putB_lt _ _ x h
  · exact outs_lt _ _ x h
  · exact putB_lt _ _ x h
  · subst h; split <;> decide
noncomputable def supBlk (N id : Nat) (me m s r : Int) (S : List Nat) (c : Int) (g : Bool) : Nat := blkOf N (bodyN id me.toNat m.toNat s.toNat r.toNat S c.toNat g)
end Go.Proofs.Ytabebpemfinejaa.draft

set_option linter.unusedVariables false
set_option linter.unusedSimpArgs false
set_option maxRecDepth 10000
namespace Go.Proofs.Ytabebpemfinejaa.draft
open Go.Am
noncomputable def c68_l0 : C := .seq (.reg [
 qo 29 (.p (arF .lss (tt 28) (tt 27))) [pp 28, pp 27]]) (
 .seq (.cond (tt 29) (.skip) (.exit 0)) (
 .seq (.block 1 (.seq (.reg [
 mv 30 28,
 mv 7 30]) (
 .reg [
 mv 31 6,
 mv 32 7,
 mv 33 0,
 mv 34 7,
 qo 35 (.p (arF .mul (ii 8) (tt 34))) [pp 34],
 qo 36 (.p (arF .shr (tt 33) (tt 35))) [pp 33, pp 35],
 qo 37 (.p (convF .u8 (tt 36))) [pp 36],
 qo 38 (.p (iaddrSF (tt 31) (tt 32) 1)) [pp 31, pp 32],
 qn (.a (storeF (tt 38) (tt 37) 1)) [pp 38, pp 37]]))) (
 .reg [
 qo 39 (.p (arF .add (tt 28) (ii 1))) [pp 28],
 mv 28 39])))
noncomputable def c68 : CFn := ⟨[.tmp (pp 4), .tmp (pp 5)],
 .seq (.reg [
 qo 4 (.p (S.get (.c (.slice none 0 0 0)))) [],
 qo 5 (.p (S.get (ii 0))) []]) (
 .seq (.seq (.reg [
 mv 8 1,
 qo 9 (.p (arF .lss (tt 8) (ii 1))) [pp 8],
 mv 10 9,
 mg 11 1 10 false,
 qg 12 (.p (arF .gtr (tt 11) (ii 8))) 10 false [pp 11],
 qo 13 (.p (pickF (tt 10) (.c (.bool true)) (tt 12))) [pp 10, pp 12],
 mv 14 13,
 mg 15 1 14 false,
 qg 16 (.p (arF .lss (tt 15) (ii 8))) 14 false [pp 15],
 mg 17 16 14 false,
 mg 18 0 17 true,
 mg 19 1 17 true,
 qg 20 (.p (arF .mul (ii 8) (tt 19))) 17 true [pp 19],
 qg 21 (.p (arF .shr (tt 18) (tt 20))) 17 true [pp 18, pp 20],
 qg 22 (.p (arF .gtr (tt 21) (.c (.int .u64 0)))) 17 true [pp 21],
 qg 23 (.p (pickF (tt 17) (tt 22) (.c (.bool false)))) 14 false [pp 17, pp 22],
 qo 24 (.p (pickF (tt 14) (.c (.bool true)) (tt 23))) [pp 14, pp 23]]) (
 .cond (tt 24) (.seq (.reg [
 qo 4 (.p (S.get (.c (.slice none 0 0 0)))) [],
 qo 5 (.p (S.get (ii 2))) []]) (
 .ret)) (.skip))) (
 .seq (.reg [
 mv 25 1,
 qo 26 (.m (mksliceF 1 1 [.int .u8 0] (tt 25) (tt 25))) [pp 25, pp 25],
 mv 6 26]) (
 .seq (.seq (.reg [
 mv 27 1,
 qo 28 (.p (S.get (ii 0))) []]) (
 .block 0 (.loop c68_l0))) (
 .seq (.reg [
 mv 40 6,
 mv 4 40,
 qo 5 (.p (S.get (ii 0))) []]) (
 .ret)))))⟩
theorem c68_eq : fnOf Try.prog 68 = some c68 := by kernel_rfl
theorem shr_u64 (a m : Nat) (hm : m < 64) : arith .shr (.int .u64 (a : Int)) (.int .i64 (m : Int)) = some (.int .u64 ((a / 2 ^ m : Nat) : Int)) := by
  have : min m 64 = m := by omega
  show some (V.int .u64 (.ofNat (Nat.div a (Nat.pow 2 (min m 64))))) = _
  rw [this]; rfl
def dig (N i : Nat) : Nat := N / 256 ^ i % 256
theorem dig_lt (N i : Nat) : dig N i < 256 := Nat.mod_lt _ (by decide)
theorem digs_stl (N : Nat) : ∀ n, digs N n = stl (dig N) n 0
  | 0 => rfl
  | n + 1 => by
    rw [digs, digs_stl N n]
    have : ∀ (f : Nat → Nat) n j, stl f (n + 1) j = stl f n j ++ [f (j + n)] := by
      intro f n
      induction n with
      | zero => intro j; rfl
      | succ n ih =>
        intro j
        show f j :: stl f (n + 1) (j + 1) = (f j :: stl f n (j + 1)) ++ [f (j + (n + 1))]
        rw [ih (j + 1), List.cons_append, show j + 1 + n = j + (n + 1) by omega]
    rw [this, Nat.zero_add]; rfl
theorem pnput_ok (H : Heap) {N s : Nat} (hN : N < 18446744073709551616) (hs : 1 ≤ s ∧ s ≤ 8) {lf : Nat} (hlf : 17 < lf) (n : Nat) : ret (callS Try.prog S0 lf (n + 1) 68 [.int .u64 (N : Int), .int .i64 (s : Int)] H) fun v H' => Turns Z H H' ∧
    ((N / 256 ^ s = 0 ∧ ∃ k, v = .tuple [.slice (some ⟨.run k, 0⟩) s s 0, .int .i64 0] ∧ BodyAt H' k (dig N) s ∧ H.next ≤ k) ∨ (N / 256 ^ s ≠ 0 ∧ v = .tuple [.slice none 0 0 0, .int .i64 2])) := by
  have g1 : ¬ ((s : Int) < 1) := by omega
  have g2 : ¬ ((8 : Int) < (s : Int)) := by omega
  have p256 : ∀ i : Nat, 2 ^ (8 * i) = 256 ^ i := fun i => by rw [Nat.pow_mul]
  obtain ⟨s8, hs8⟩ : ∃ z, z = 8 * s := ⟨_, rfl⟩
  have w8 : IntKind.i64.wrap (8 * (s : Int)) = (s8 : Int) := by rw [wrap_i64 (by omega)]; omega
  have hloop : ∀ t : T, t.getP (Tr.path 0) = some (.int .u64 (N : Int)) → t.getP (Tr.path 6) = some (.slice (some ⟨.run H.next, 0⟩) s s 0) → t.getP (Tr.path 27) = some (.int .i64 (s : Int)) → t.getP (Tr.path 28) = some (.int .i64 0) →
      wp (loopF (runC (callS Try.prog S0 lf n) lf c68_l0) lf ⟨t, H.add (.rows false 1 (List.replicate s [.int .u8 0])), []⟩) fun x s' => x = .ex 0 ∧ s'.d = [] ∧ s'.t.getP (Tr.path 6) = some (.slice (some ⟨.run H.next, 0⟩) s s 0) ∧ Turns Z H s'.H ∧ s'.H.get (.run H.next) = some (.rows false 1 (rowsB (dig N) s 0)) ∧ H.next < s'.H.next := by
    intro t q0 q6 q27 q28
    refine wp_loopF (fun j s' => ∃ i : Nat, j = s - i ∧ i ≤ s ∧ s'.d = [] ∧ s'.t.getP (Tr.path 0) = some (.int .u64 (N : Int)) ∧ s'.t.getP (Tr.path 6) = some (.slice (some ⟨.run H.next, 0⟩) s s 0) ∧ s'.t.getP (Tr.path 27) = some (.int .i64 (s : Int)) ∧ s'.t.getP (Tr.path 28) = some (.int .i64 (i : Int)) ∧ Turns Z H s'.H ∧ s'.H.get (.run H.next) = some (.rows false 1 (rowsB (fun j => if j < i then dig N j else 0) s 0)) ∧ H.next < s'.H.next) ?_ lf s _ ⟨0, rfl, by omega, rfl, q0, q6, q27, q28, Turns.add Z H _, ?_, by simp⟩ (by omega)
    · rintro j ⟨t, HH, d⟩ ⟨i, rfl, hi, hd, q0, q6, q27, q28, tz, gk, hk⟩
      dsimp only at hd q0 q6 q27 q28 tz gk hk
      subst hd
      by_cases hlt : i < s
      · have hlt' : (i : Int) < (s : Int) := by omega
        have hle' : i + 1 ≤ s := hlt
        have w2 : IntKind.i64.wrap ((i : Int) + 1) = ((i + 1 : Nat) : Int) := by rw [wrap_i64 (by omega)]; omega
        obtain ⟨e, he⟩ : ∃ e, e = 8 * i := ⟨_, rfl⟩
        have w3 : IntKind.i64.wrap (8 * (i : Int)) = (e : Int) := by rw [wrap_i64 (by omega)]; omega
        have sh := shr_u64 N e (by omega)
        rw [he, p256] at sh
        rw [← he] at sh
        have w4 : IntKind.u8.wrap ((N / 256 ^ i : Nat) : Int) = ((dig N i : Nat) : Int) := by
          show (if false && decide (((N / 256 ^ i : Nat) : Int) % (2 ^ 8 : Int) ≥ (2 ^ (8 - 1) : Int)) then ((N / 256 ^ i : Nat) : Int) % (2 ^ 8 : Int) - (2 ^ 8 : Int) else ((N / 256 ^ i : Nat) : Int) % (2 ^ 8 : Int)) = _
          rw [show (2 ^ 8 : Int) = ((256 : Nat) : Int) from rfl]
          simp only [Bool.false_and, Bool.false_eq_true, if_false]
          unfold dig
          rw [← Int.natCast_emod]
        have sto : storeAt HH ⟨.run H.next, i⟩ [.int .u8 ((dig N i : Nat) : Int)] = some (HH.set (.run H.next) (.rows false 1 (rowsB (fun j => if j < i + 1 then dig N j else 0) s 0))) := by
          rw [storeAt_eq gk (r := [.int .u8 (((fun j => if j < i then dig N j else 0) i : Nat) : Int)]) (r' := [.int .u8 ((dig N i : Nat) : Int)]) (by rw [Nat.div_one, nth_eq, rowsB_get _ s 0 i hlt, Nat.zero_add]) (by rw [Nat.mod_one]; rfl), ← upd_eq, Nat.div_one, rowsB_upd _ _ s 0 i hlt]
          rw [rowsB_congr (g := fun j => if j < i + 1 then dig N j else 0) s 0 (fun j h1 h2 => ?_)]
          by_cases e1 : j = i
          · subst e1; simp
          · by_cases e2 : j < i
            · simp [e1, e2, show j < i + 1 by omega]
            · simp [e1, e2, show ¬ j < i + 1 by omega]
        generalize N / 256 ^ i = z at *
        simp only [c68_l0, q0, q6, q27, q28, hlt', hle', w2, w3, sh, w4, sto, arith_mul, Nat.mul_one, sy, tup, ↓reduceIte, Nat.reduceEqDiff, Nat.reduceAdd, Nat.reduceSub, Nat.reduceMul, Nat.reduceDiv, Nat.reduceMod, Nat.reduceLeDiff, Int.reduceBEq, reduceCtorEq]
        exact ⟨s - (i + 1), by omega, i + 1, rfl, by omega, trivial, trivial, trivial, trivial, by simp, tz.setnew (Nat.le_refl _) _, by rw [Heap.get_set, if_pos rfl], by simpa using hk⟩
      · have : i = s := by omega
        subst this
        simp only [c68_l0, q0, q6, q27, q28, Int.lt_irrefl, sy, tup, ↓reduceIte, Nat.reduceEqDiff, Nat.reduceAdd, Nat.reduceSub, Nat.reduceMul, Nat.reduceDiv, Nat.reduceMod, Nat.reduceLeDiff, Int.reduceBEq, reduceCtorEq]
        refine ⟨trivial, trivial, trivial, tz, ?_, hk⟩
        rw [gk, rowsB_congr (g := dig N) i 0 (fun j h1 h2 => by simp [show j < i by omega])]
    · show (H.add _).get (.run H.next) = _
      rw [Heap.get_add, if_pos rfl, rowsB_rep s 0]
      rfl
  have m1 : s ≤ s := Nat.le_refl _
  have m2 : s * 1 ≤ 1099511627776 := by omega
  have m3 : 1 * s ≤ 1099511627776 := by omega
  have m4 : s ≤ 1099511627776 := by omega
  refine ret_call rfl c68_eq ?_
  by_cases h8 : s < 8
  · have h8' : (s : Int) < 8 := by omega
    have sh := shr_u64 N s8 (by omega)
    rw [hs8, p256, ← hs8] at sh
    by_cases h0 : N / 256 ^ s = 0
    · have z0 : ¬ ((0 : Int) < ((N / 256 ^ s : Nat) : Int)) := by rw [h0]; decide
      simp only [c68, g1, g2, h8', w8, sh, z0, arith_mul, mksliceF, m1, m2, m3, m4, sy, tup, ↓reduceIte, Nat.reduceEqDiff, Nat.reduceAdd, Nat.reduceSub, Nat.reduceMul, Nat.reduceDiv, Nat.reduceMod, Nat.reduceLeDiff, Int.reduceBEq, reduceCtorEq]
      refine wp_ctx (F := fun r => seqC _ _ _ (blockC _ r)) (hloop _ ?_ ?_ ?_ ?_) ?_
      · simp only [sy, tup, ↓reduceIte, Nat.reduceEqDiff, Nat.reduceAdd, Nat.reduceSub, Nat.reduceMul, Nat.reduceDiv, Nat.reduceMod, Nat.reduceLeDiff, Int.reduceBEq, reduceCtorEq]
      · simp only [sy, tup, ↓reduceIte, Nat.reduceEqDiff, Nat.reduceAdd, Nat.reduceSub, Nat.reduceMul, Nat.reduceDiv, Nat.reduceMod, Nat.reduceLeDiff, Int.reduceBEq, reduceCtorEq]
      · simp only [sy, tup, ↓reduceIte, Nat.reduceEqDiff, Nat.reduceAdd, Nat.reduceSub, Nat.reduceMul, Nat.reduceDiv, Nat.reduceMod, Nat.reduceLeDiff, Int.reduceBEq, reduceCtorEq]
      · simp only [sy, tup, ↓reduceIte, Nat.reduceEqDiff, Nat.reduceAdd, Nat.reduceSub, Nat.reduceMul, Nat.reduceDiv, Nat.reduceMod, Nat.reduceLeDiff, Int.reduceBEq, reduceCtorEq]
      rintro x ⟨t, HH, d⟩ ⟨rfl, hd, q6, tz, gk, hk⟩
      dsimp only at hd q6 tz gk hk
      subst hd
      simp only [q6, sy, tup, ↓reduceIte, Nat.reduceEqDiff, Nat.reduceAdd, Nat.reduceSub, Nat.reduceMul, Nat.reduceDiv, Nat.reduceMod, Nat.reduceLeDiff, Int.reduceBEq, reduceCtorEq]
      exact ⟨trivial, .inr trivial, _, rfl, tz, .inl ⟨h0, H.next, rfl, ⟨gk, hk⟩, Nat.le_refl _⟩⟩
    · have z0 : (0 : Int) < ((N / 256 ^ s : Nat) : Int) := Int.ofNat_lt.2 (Nat.pos_of_ne_zero h0)
      simp only [c68, g1, g2, h8', w8, sh, z0, arith_mul, sy, tup, ↓reduceIte, Nat.reduceEqDiff, Nat.reduceAdd, Nat.reduceSub, Nat.reduceMul, Nat.reduceDiv, Nat.reduceMod, Nat.reduceLeDiff, Int.reduceBEq, reduceCtorEq]
      exact ⟨trivial, .inr trivial, _, rfl, Turns.refl _ _, .inr ⟨h0, rfl⟩⟩
  · have h8' : ¬ (s : Int) < 8 := by omega
    have hs : s = 8 := by omega
    have h0 : N / 256 ^ s = 0 := by rw [hs]; exact Nat.div_eq_of_lt (by rw [show (256 : Nat) ^ 8 = 18446744073709551616 by decide +kernel]; exact hN)
    simp only [c68, g1, g2, h8', mksliceF, m1, m2, m3, m4, sy, tup, ↓reduceIte, Nat.reduceEqDiff, Nat.reduceAdd, Nat.reduceSub, Nat.reduceMul, Nat.reduceDiv, Nat.reduceMod, Nat.reduceLeDiff, Int.reduceBEq, reduceCtorEq]
    refine wp_ctx (F := fun r => seqC _ _ _ (blockC _ r)) (hloop _ ?_ ?_ ?_ ?_) ?_
    · simp only [sy, tup, ↓reduceIte, Nat.reduceEqDiff, Nat.reduceAdd, Nat.reduceSub, Nat.reduceMul, Nat.reduceDiv, Nat.reduceMod, Nat.reduceLeDiff, Int.reduceBEq, reduceCtorEq]
    · simp only [sy, tup, ↓reduceIte, Nat.reduceEqDiff, Nat.reduceAdd, Nat.reduceSub, Nat.reduceMul, Nat.reduceDiv, Nat.reduceMod, Nat.reduceLeDiff, Int.reduceBEq, reduceCtorEq]
    · simp only [sy, tup, ↓reduceIte, Nat.reduceEqDiff, Nat.reduceAdd, Nat.reduceSub, Nat.reduceMul, Nat.reduceDiv, Nat.reduceMod, Nat.reduceLeDiff, Int.reduceBEq, reduceCtorEq]
    · simp only [sy, tup, ↓reduceIte, Nat.reduceEqDiff, Nat.reduceAdd, Nat.reduceSub, Nat.reduceMul, Nat.reduceDiv, Nat.reduceMod, Nat.reduceLeDiff, Int.reduceBEq, reduceCtorEq]
    rintro x ⟨t, HH, d⟩ ⟨rfl, hd, q6, tz, gk, hk⟩
    dsimp only at hd q6 tz gk hk
    subst hd
    simp only [q6, sy, tup, ↓reduceIte, Nat.reduceEqDiff, Nat.reduceAdd, Nat.reduceSub, Nat.reduceMul, Nat.reduceDiv, Nat.reduceMod, Nat.reduceLeDiff, Int.reduceBEq, reduceCtorEq]
    exact ⟨trivial, .inr trivial, _, rfl, tz, .inl ⟨h0, H.next, rfl, ⟨gk, hk⟩, Nat.le_refl _⟩⟩
end Go.Proofs.Ytabebpemfinejaa.draft

set_option linter.unusedVariables false
set_option linter.unusedSimpArgs false
set_option maxRecDepth 10000
namespace Go.Proofs.Ytabebpemfinejaa.draft
open Go.Am
noncomputable def c70_l0 : C := .seq (.reg [
 qo 25 (.p (arF .lss (tt 24) (tt 23))) [pp 24, pp 23]]) (
 .seq (.cond (tt 25) (.skip) (.exit 0)) (
 .seq (.block 1 (.seq (.reg [
 mv 26 24,
 qo 27 (.p (iaddrSF (tt 22) (tt 24) 1)) [pp 22, pp 24],
 qo 28 (.r (loadF (tt 27) 1 .sc)) [pp 27],
 mv 7 26,
 mv 8 28]) (
 .seq (.seq (.reg [
 mv 29 8,
 mv 30 1,
 qo 31 (.p (arF .shr (tt 29) (tt 30))) [pp 29, pp 30],
 qo 32 (.p (arF .gtr (tt 31) (.c (.int .u8 0)))) [pp 31]]) (
 .cond (tt 32) (.seq (.reg [
 qo 4 (.p (S.get (.c (.slice none 0 0 0)))) [],
 qo 5 (.p (S.get (ii 2))) []]) (
 .ret)) (.skip))) (
 .seq (.reg [
 mv 33 7,
 mv 34 1,
 qo 35 (.p (arF .mul (tt 33) (tt 34))) [pp 33, pp 34],
 mv 9 35]) (
 .seq (.regD [
 mv 36 6,
 mv 37 9,
 qo 38 (.p (arF .quo (tt 37) (ii 8))) [pp 37],
 qo 39 (.p (iaddrSF (tt 36) (tt 38) 1)) [pp 36, pp 38],
 qo 40 (.r (loadF (tt 39) 1 .sc)) [pp 39],
 mv 41 8,
 mv 42 9,
 qo 43 (.p (arF .rem (tt 42) (ii 8))) [pp 42],
 qo 44 (.p (arF .shl (tt 41) (tt 43))) [pp 41, pp 43],
 qo 45 (.p (arF .or (tt 40) (tt 44))) [pp 40, pp 44],
 qo 46 (.p (iaddrSF (tt 36) (tt 38) 1)) [pp 36, pp 38],
 qn (.a (storeF (tt 46) (tt 45) 1)) [pp 46, pp 45]] [0, 0, 2, 7, 15, 0, 0, 64, 224, 511, 1023, 2047]) (
 .seq (.reg [
 mv 47 9,
 qo 48 (.p (arF .rem (tt 47) (ii 8))) [pp 47],
 mv 49 1,
 qo 50 (.p (arF .add (tt 48) (tt 49))) [pp 48, pp 49],
 qo 51 (.p (arF .sub (tt 50) (ii 8))) [pp 50],
 mv 10 51]) (
 .seq (.reg [
 mv 52 10,
 qo 53 (.p (arF .gtr (tt 52) (ii 0))) [pp 52]]) (
 .cond (tt 53) (.regD [
 mv 54 6,
 mv 55 9,
 qo 56 (.p (arF .quo (tt 55) (ii 8))) [pp 55],
 qo 57 (.p (arF .add (tt 56) (ii 1))) [pp 56],
 qo 58 (.p (iaddrSF (tt 54) (tt 57) 1)) [pp 54, pp 57],
 qo 59 (.r (loadF (tt 58) 1 .sc)) [pp 58],
 mv 60 8,
 mv 61 1,
 mv 62 10,
 qo 63 (.p (arF .sub (tt 61) (tt 62))) [pp 61, pp 62],
 qo 64 (.p (arF .shr (tt 60) (tt 63))) [pp 60, pp 63],
 qo 65 (.p (arF .or (tt 59) (tt 64))) [pp 59, pp 64],
 qo 66 (.p (iaddrSF (tt 54) (tt 57) 1)) [pp 54, pp 57],
 qn (.a (storeF (tt 66) (tt 65) 1)) [pp 66, pp 65]] [0, 0, 2, 6, 15, 31, 0, 0, 0, 384, 960, 2047, 4095, 8191]) (.skip))))))))) (
 .reg [
 qo 67 (.p (arF .add (tt 24) (ii 1))) [pp 24],
 mv 24 67])))
noncomputable def c70 : CFn := ⟨[.tmp (pp 4), .tmp (pp 5)],
 .seq (.reg [
 qo 4 (.p (S.get (.c (.slice none 0 0 0)))) [],
 qo 5 (.p (S.get (ii 0))) []]) (
 .seq (.seq (.reg [
 mv 11 1,
 qo 12 (.c (callF (ff 79) [(tt 11)])) [pp 11],
 qo 13 (.p (unF .not (tt 12))) [pp 12]]) (
 .cond (tt 13) (.seq (.reg [
 qo 4 (.p (S.get (.c (.slice none 0 0 0)))) [],
 qo 5 (.p (S.get (ii 2))) []]) (
 .ret)) (.skip))) (
 .seq (.reg [
 mv 14 0,
 qo 15 (.p (lenF (tt 14))) [pp 14],
 mv 16 1,
 qo 17 (.p (arF .mul (tt 15) (tt 16))) [pp 15, pp 16],
 qo 18 (.p (arF .add (tt 17) (ii 8))) [pp 17],
 qo 19 (.p (arF .sub (tt 18) (ii 1))) [pp 18],
 qo 20 (.p (arF .quo (tt 19) (ii 8))) [pp 19],
 qo 21 (.m (mksliceF 1 1 [.int .u8 0] (tt 20) (tt 20))) [pp 20, pp 20],
 mv 6 21]) (
 .seq (.seq (.reg [
 mv 22 0,
 qo 23 (.p (lenF (tt 22))) [pp 22],
 qo 24 (.p (S.get (ii 0))) []]) (
 .block 0 (.loop c70_l0))) (
 .seq (.reg [
 mv 68 6,
 mv 4 68,
 qo 5 (.p (S.get (ii 0))) []]) (
 .ret)))))⟩
theorem c70_eq : fnOf Try.prog 70 = some c70 := by kernel_rfl
theorem shr_u8i {a m : Nat} (hm : m < 8) : arith .shr (.int .u8 (a : Int)) (.int .i64 (m : Int)) = some (.int .u8 ((a / 2 ^ m : Nat) : Int)) := by
  have : min m 8 = m := by omega
  show some (V.int .u8 (.ofNat (Nat.div a (Nat.pow 2 (min m 8))))) = _
  rw [this]; rfl
theorem shl_u8 {a m : Nat} (hm : m < 8) (h : a * 2 ^ m < 256) : arith .shl (.int .u8 (a : Int)) (.int .i64 (m : Int)) = some (.int .u8 ((a * 2 ^ m : Nat) : Int)) := by
  have e : min m 8 = m := by omega
  show mkI .u8 (mulI (a : Int) (.ofNat (Nat.pow 2 (min m 8)))) = _
  rw [e, C9]
  show some (V.int .u8 (IntKind.u8.wrap ((a * 2 ^ m : Nat) : Int))) = _
  rw [wrap_u8 h]
theorem or_u8 {a b : Nat} (h : a < 256) (k : b < 256) : arith .or (.int .u8 (a : Int)) (.int .u8 (b : Int)) = some (.int .u8 ((a ||| b : Nat) : Int)) := by
  have hl : a ||| b < 256 := Nat.or_lt_two_pow (n := 8) h k
  have f : ∀ {x : Nat}, x < 256 → fitsK .u8 x = true := fun {x} hx => by
    show Nat.ble x 255 = true
    rw [ble_iff]; omega
  have e : bitI Nat.lor (fun _ a b => a ||| b) .u8 (a : Int) (b : Int) = ((a ||| b : Nat) : Int) := by
    show (match fitsK .u8 a && fitsK .u8 b with | true => Int.ofNat (Nat.lor a b) | false => _) = _
    rw [f h, f k]; rfl
  show (match decide (IntKind.u8 = IntKind.u8) with | false => none | true => mkI .u8 (bitI Nat.lor (fun _ a b => a ||| b) .u8 (a : Int) (b : Int))) = _
  rw [e, C9, wrap_u8 hl]; rfl
def accS (S : Nat → Nat) : Nat → Nat → Nat
  | 0, _ => 0
  | i + 1, q => if q = i / 4 then accS S i q ||| (S i * 2 ^ (2 * i % 8)) else accS S i q
theorem step_lt {S : Nat → Nat} {i : Nat} (h : S i < 4) : S i * 2 ^ (2 * i % 8) < 256 := by
  have : 2 * i % 8 = 0 ∨ 2 * i % 8 = 2 ∨ 2 * i % 8 = 4 ∨ 2 * i % 8 = 6 := by omega
  rcases this with e | e | e | e <;> rw [e] <;> omega
theorem accS_lt {S : Nat → Nat} (h : ∀ i, i < 16 → S i < 4) : ∀ i, i ≤ 16 → ∀ q, accS S i q < 256
  | 0, _, q => by show 0 < 256; decide
  | i + 1, hi, q => by
    have ih := accS_lt h i (by omega) q
    unfold accS
    split
    · exact Nat.or_lt_two_pow (n := 8) ih (step_lt (h i (by omega)))
    · exact ih
theorem or4 : ∀ a, a < 4 → ∀ b, b < 4 → ∀ c, c < 4 → ∀ d, d < 4 → (((0 ||| a * 1) ||| b * 4) ||| c * 16) ||| d * 64 = a + 4 * b + 16 * c + 64 * d := by decide +kernel
theorem pack4 (a b c d : Nat) (ha : a < 4) (hb : b < 4) (hc : c < 4) (hd : d < 4) : 2 * (2 * (2 * (2 * (2 * (2 * (2 * (2 * 0 + d / 2 % 2) + d / 1 % 2) + c / 2 % 2) + c / 1 % 2) + b / 2 % 2) + b / 1 % 2) + a / 2 % 2) + a / 1 % 2 = a + 4 * b + 16 * c + 64 * d := by omega
theorem accS_out {S : Nat → Nat} (h : ∀ i, i < 16 → S i < 4) : ∀ q, q < 4 → accS S 16 q = outB S q := by
  have key : ∀ q, q < 4 → outB S q = S (4 * q) + 4 * S (4 * q + 1) + 16 * S (4 * q + 2) + 64 * S (4 * q + 3) := fun q hq => by
    have b : ∀ k, k < 8 → bitOf S (8 * q + k) = S (4 * q + k / 2) / 2 ^ (k % 2) % 2 := fun k hk => by
      unfold bitOf
      rw [show (8 * q + k) / 2 = 4 * q + k / 2 by omega, show (8 * q + k) % 2 = k % 2 by omega]
    unfold outB
    show 2 * (2 * (2 * (2 * (2 * (2 * (2 * (2 * 0 + bitOf S (8 * q + 7)) + bitOf S (8 * q + 6)) + bitOf S (8 * q + 5)) + bitOf S (8 * q + 4)) + bitOf S (8 * q + 3)) + bitOf S (8 * q + 2)) + bitOf S (8 * q + 1)) + bitOf S (8 * q + 0) = _
    rw [b 7 (by omega), b 6 (by omega), b 5 (by omega), b 4 (by omega), b 3 (by omega), b 2 (by omega), b 1 (by omega), b 0 (by omega)]
    exact pack4 (S (4 * q)) (S (4 * q + 1)) (S (4 * q + 2)) (S (4 * q + 3)) (h _ (by omega)) (h _ (by omega)) (h _ (by omega)) (h _ (by omega))
  intro q hq
  rw [key q hq, ← or4 _ (h _ (show 4 * q < 16 by omega)) _ (h _ (show 4 * q + 1 < 16 by omega)) _ (h _ (show 4 * q + 2 < 16 by omega)) _ (h _ (show 4 * q + 3 < 16 by omega))]
  match q, hq with
  | 0, _ => simp [accS]
  | 1, _ => simp [accS]
  | 2, _ => simp [accS]
  | 3, _ => simp [accS]
theorem pbits_ok {H : Heap} {p : Ptr} {cap loose : Nat} {S : Nat → Nat} (hS : ∀ i, i < 16 → S i < 4) (hd : ∀ {H' : Heap}, Turns Z H H' → ∀ i, i < 16 → loadAt H' ⟨p.b, p.o + i⟩ 1 = some [.int .u8 (S i : Int)]) {lf : Nat} (hlf : 40 < lf) (n : Nat) :
    ret (callS Try.prog S0 lf (n + 2) 70 [.slice (some p) 16 cap loose, .int .i64 2] H) fun v H' => Turns Z H H' ∧ ∃ k, v = .tuple [.slice (some ⟨.run k, 0⟩) 4 4 0, .int .i64 0] ∧ BodyAt H' k (outB S) 4 ∧ H.next ≤ k := by
  have wd := wide_ok H lf n
  have w1 : IntKind.i64.wrap (((16 : Nat) : Int) * 2) = 32 := by kernel_rfl
  have w2 : IntKind.i64.wrap (32 + 8) = 40 := by kernel_rfl
  have w3 : IntKind.i64.wrap (40 - 1) = 39 := by kernel_rfl
  have q1 : arith .quo (.int .i64 39) (.int .i64 8) = some (.int .i64 4) := by kernel_rfl
  have a4 : asNat (.int .i64 4) = some 4 := rfl
  have hloop : ∀ t : T, t.getP (Tr.path 1) = some (.int .i64 2) → t.getP (Tr.path 6) = some (.slice (some ⟨.run H.next, 0⟩) 4 4 0) → t.getP (Tr.path 22) = some (.slice (some p) 16 cap loose) → t.getP (Tr.path 23) = some (.int .i64 ((16 : Nat) : Int)) → t.getP (Tr.path 24) = some (.int .i64 0) →
      wp (loopF (runC (callS Try.prog S0 lf (n + 1)) lf c70_l0) lf ⟨t, H.add (.rows false 1 (List.replicate 4 [.int .u8 0])), []⟩) fun x s' => x = .ex 0 ∧ s'.d = [] ∧ s'.t.getP (Tr.path 6) = some (.slice (some ⟨.run H.next, 0⟩) 4 4 0) ∧ Turns Z H s'.H ∧ s'.H.get (.run H.next) = some (.rows false 1 (rowsB (outB S) 4 0)) ∧ H.next < s'.H.next := by
    intro t p1 p6 p22 p23 p24
    refine wp_loopF (fun j s' => ∃ i : Nat, j = 16 - i ∧ i ≤ 16 ∧ s'.d = [] ∧ s'.t.getP (Tr.path 1) = some (.int .i64 2) ∧ s'.t.getP (Tr.path 6) = some (.slice (some ⟨.run H.next, 0⟩) 4 4 0) ∧ s'.t.getP (Tr.path 22) = some (.slice (some p) 16 cap loose) ∧ s'.t.getP (Tr.path 23) = some (.int .i64 ((16 : Nat) : Int)) ∧ s'.t.getP (Tr.path 24) = some (.int .i64 (i : Int)) ∧ Turns Z H s'.H ∧ s'.H.get (.run H.next) = some (.rows false 1 (rowsB (accS S i) 4 0)) ∧ H.next < s'.H.next) ?_ lf 16 _ ⟨0, rfl, by omega, rfl, p1, p6, p22, p23, p24, Turns.add Z H _, ?_, by simp⟩ (by omega)
    · rintro j ⟨t, HH, d⟩ ⟨i, rfl, hi, hd', p1, p6, p22, p23, p24, hT, gk, hk⟩
      dsimp only at hd' p1 p6 p22 p23 p24 hT gk hk
      subst hd'
      by_cases hlt : i < 16
      · have hlt' : (i : Int) < ((16 : Nat) : Int) := by omega
        have hle' : i + 1 ≤ 16 := hlt
        have lk := hd hT i hlt
        have hSi := hS i hlt
        have s0 : arith .shr (.int .u8 (S i : Int)) (.int .i64 2) = some (.int .u8 0) := by
          have := shr_u8i (a := S i) (m := 2) (by omega)
          rw [show S i / 2 ^ 2 = 0 from Nat.div_eq_of_lt hSi] at this
          exact this
        obtain ⟨e, he⟩ : ∃ e, e = 2 * i := ⟨_, rfl⟩
        have u1 : IntKind.i64.wrap ((i : Int) * 2) = (e : Int) := by rw [wrap_i64 (by omega)]; omega
        have u2 : arith .quo (.int .i64 (e : Int)) (.int .i64 8) = some (.int .i64 ((e / 8 : Nat) : Int)) := quo_i64 e 8 (by decide) (by omega)
        have u3 : arith .rem (.int .i64 (e : Int)) (.int .i64 8) = some (.int .i64 ((e % 8 : Nat) : Int)) := rem_i64 e 8 (by decide)
        have hq4 : e / 8 < 4 := by omega
        have hq4' : e / 8 + 1 ≤ 4 := hq4
        have hm6 : e % 8 ≤ 6 := by omega
        have hstep := step_lt hSi
        rw [← he] at hstep
        have sh := shl_u8 (a := S i) (m := e % 8) (by omega) hstep
        have ha := accS_lt hS i (by omega) (e / 8)
        have og := or_u8 ha hstep
        have hq : e / 8 = i / 4 := by omega
        have hnew : accS S (i + 1) (e / 8) = accS S i (e / 8) ||| (S i * 2 ^ (e % 8)) := by
          show (if e / 8 = i / 4 then accS S i (e / 8) ||| (S i * 2 ^ (2 * i % 8)) else accS S i (e / 8)) = _
          rw [if_pos hq, ← he]
        have lb : loadAt HH ⟨.run H.next, e / 8⟩ 1 = some [.int .u8 ((accS S i (e / 8) : Nat) : Int)] := by
          rw [loadAt_eq gk (r := [.int .u8 ((accS S i (e / 8) : Nat) : Int)]) (by rw [Nat.div_one, nth_eq, rowsB_get _ 4 0 _ hq4, Nat.zero_add]), Nat.mod_one]; rfl
        have sto : storeAt HH ⟨.run H.next, e / 8⟩ [.int .u8 ((accS S i (e / 8) ||| (S i * 2 ^ (e % 8)) : Nat) : Int)] = some (HH.set (.run H.next) (.rows false 1 (rowsB (accS S (i + 1)) 4 0))) := by
          rw [storeAt_eq gk (r := [.int .u8 ((accS S i (e / 8) : Nat) : Int)]) (r' := [.int .u8 ((accS S i (e / 8) ||| (S i * 2 ^ (e % 8)) : Nat) : Int)]) (by rw [Nat.div_one, nth_eq, rowsB_get _ 4 0 _ hq4, Nat.zero_add]) (by rw [Nat.mod_one]; rfl), ← upd_eq, Nat.div_one, rowsB_upd _ _ 4 0 _ hq4]
          rw [rowsB_congr (g := accS S (i + 1)) 4 0 (fun j h1 h2 => ?_)]
          rw [Nat.zero_add]
          by_cases e1 : j = e / 8
          · rw [if_pos e1, e1, hnew]
          · rw [if_neg e1]
            show accS S i j = (if j = i / 4 then _ else accS S i j)
            rw [if_neg (by omega)]
        generalize S i * 2 ^ (e % 8) = sv at *
        generalize accS S i (e / 8) = av at *
        generalize (av ||| sv : Nat) = ov at *
        generalize e / 8 = qq at *
        generalize e % 8 = mm at *
        obtain ⟨m2, hm2⟩ : ∃ m2, m2 = mm + 2 := ⟨_, rfl⟩
        have u4 : IntKind.i64.wrap ((mm : Int) + 2) = (m2 : Int) := by rw [wrap_i64 (by omega)]; omega
        have u5 : IntKind.i64.wrap ((m2 : Int) - 8) = (m2 : Int) - 8 := wrap_i64 (by omega)
        have u6 : ¬ ((0 : Int) < (m2 : Int) - 8) := by omega
        have u7 : IntKind.i64.wrap ((i : Int) + 1) = ((i + 1 : Nat) : Int) := by rw [wrap_i64 (by omega)]; omega
        have z0 : ¬ ((0 : Int) < 0) := by decide
        simp only [c70_l0, p1, p6, p22, p23, p24, hlt', hle', lk, s0, z0, u1, u2, u3, u4, u5, u6, hq4', lb, sh, og, sto, arith_mul, Nat.mul_one, sy, tup, ↓reduceIte, Nat.reduceEqDiff, Nat.reduceAdd, Nat.reduceSub, Nat.reduceMul, Nat.reduceDiv, Nat.reduceMod, Nat.reduceLeDiff, Int.reduceBEq, reduceCtorEq]
        rw [endD_ok (by kernel_rfl) (by kernel_rfl)]
        simp only [p1, p6, p22, p23, p24, u1, u2, u3, u4, u5, u6, u7, sy, tup, ↓reduceIte, Nat.reduceEqDiff, Nat.reduceAdd, Nat.reduceSub, Nat.reduceMul, Nat.reduceDiv, Nat.reduceMod, Nat.reduceLeDiff, Int.reduceBEq, reduceCtorEq]
        exact ⟨16 - (i + 1), by omega, i + 1, rfl, by omega, trivial, by simp [p1], by simp [p6], by simp [p22], by simp [p23], by simp, hT.setnew (Nat.le_refl _) _, by rw [Heap.get_set, if_pos rfl], by simpa using hk⟩
      · have : i = 16 := by omega
        subst this
        have hnl : decide (((16 : Nat) : Int) < ((16 : Nat) : Int)) = false := rfl
        simp only [c70_l0, p1, p6, p22, p23, p24, hnl, Int.lt_irrefl, sy, tup, ↓reduceIte, Nat.reduceEqDiff, Nat.reduceAdd, Nat.reduceSub, Nat.reduceMul, Nat.reduceDiv, Nat.reduceMod, Nat.reduceLeDiff, Int.reduceBEq, reduceCtorEq]
        refine ⟨trivial, trivial, trivial, hT, ?_, hk⟩
        rw [gk, rowsB_congr (g := outB S) 4 0 (fun j h1 h2 => accS_out hS j (by omega))]
    · show (H.add _).get (.run H.next) = _
      rw [Heap.get_add, if_pos rfl, rowsB_rep 4 0]
      rfl
  refine ret_call rfl c70_eq ?_
  simp only [c70, wd, w1, w2, w3, q1, a4, arith_mul, mksliceF, sy, tup, ↓reduceIte, Nat.reduceEqDiff, Nat.reduceAdd, Nat.reduceSub, Nat.reduceMul, Nat.reduceDiv, Nat.reduceMod, Nat.reduceLeDiff, Int.reduceBEq, reduceCtorEq]
  refine wp_ctx (F := fun r => seqC _ _ _ (blockC _ r)) (hloop _ ?_ ?_ ?_ ?_ ?_) ?_
  · simp only [sy, tup, ↓reduceIte, Nat.reduceEqDiff, Nat.reduceAdd, Nat.reduceSub, Nat.reduceMul, Nat.reduceDiv, Nat.reduceMod, Nat.reduceLeDiff, Int.reduceBEq, reduceCtorEq]
  · simp only [sy, tup, ↓reduceIte, Nat.reduceEqDiff, Nat.reduceAdd, Nat.reduceSub, Nat.reduceMul, Nat.reduceDiv, Nat.reduceMod, Nat.reduceLeDiff, Int.reduceBEq, reduceCtorEq]
  · simp only [sy, tup, ↓reduceIte, Nat.reduceEqDiff, Nat.reduceAdd, Nat.reduceSub, Nat.reduceMul, Nat.reduceDiv, Nat.reduceMod, Nat.reduceLeDiff, Int.reduceBEq, reduceCtorEq]
  · simp only [sy, tup, ↓reduceIte, Nat.reduceEqDiff, Nat.reduceAdd, Nat.reduceSub, Nat.reduceMul, Nat.reduceDiv, Nat.reduceMod, Nat.reduceLeDiff, Int.reduceBEq, reduceCtorEq]
  · simp only [sy, tup, ↓reduceIte, Nat.reduceEqDiff, Nat.reduceAdd, Nat.reduceSub, Nat.reduceMul, Nat.reduceDiv, Nat.reduceMod, Nat.reduceLeDiff, Int.reduceBEq, reduceCtorEq]
  rintro x ⟨t, HH, d⟩ ⟨rfl, hd', q6, tz, gk, hk⟩
  dsimp only at hd' q6 tz gk hk
  subst hd'
  simp only [q6, sy, tup, ↓reduceIte, Nat.reduceEqDiff, Nat.reduceAdd, Nat.reduceSub, Nat.reduceMul, Nat.reduceDiv, Nat.reduceMod, Nat.reduceLeDiff, Int.reduceBEq, reduceCtorEq]
  exact ⟨trivial, .inr trivial, _, rfl, tz, H.next, rfl, ⟨gk, hk⟩, Nat.le_refl _⟩
end Go.Proofs.Ytabebpemfinejaa.draft

set_option linter.unusedVariables false
set_option linter.unusedSimpArgs false
set_option maxRecDepth 10000
namespace Go.Proofs.Ytabebpemfinejaa.draft
open Go.Am
noncomputable def c57 : CFn := ⟨[.cell (pp 4) 64 .bk, .tmp (pp 5)],
 .seq (.reg [
 qo 4 (.m (allocF 64 [.blk 0])) [],
 qo 5 (.p (S.get (ii 0))) []]) (
 .seq (.block 0 (.seq (.reg [
 mv 11 0,
 qo 12 (.p (eqcF false false [.int .u64] (tt 11) (.c (.int .u64 0)))) [pp 11],
 mv 10 12]) (
 .cond (tt 10) (.seq (.reg [
 qo 13 (.r (loadF (tt 4) 64 .bk)) [pp 4],
 qn (.a (storeF (tt 4) (tt 13) 64)) [pp 4, pp 13],
 qo 5 (.p (S.get (ii 2))) []]) (
 .ret)) (.seq (.reg [
 mv 15 1,
 qo 16 (.p (lenF (tt 15))) [pp 15],
 qo 17 (.p (arF .gtr (tt 16) (ii 44))) [pp 16],
 mv 14 17]) (
 .cond (tt 14) (.seq (.reg [
 qo 18 (.r (loadF (tt 4) 64 .bk)) [pp 4],
 qn (.a (storeF (tt 4) (tt 18) 64)) [pp 4, pp 18],
 qo 5 (.p (S.get (ii 3))) []]) (
 .ret)) (.skip)))))) (
 .seq (.reg [
 mv 20 0,
 qo 21 (.c (callF (ff 68) [(tt 20), (ii 8)])) [pp 20],
 mv 19 21,
 qo 22 (.p (extF (tt 19) 0)) [pp 19],
 qo 23 (.p (extF (tt 19) 1)) [pp 19],
 mv 6 22,
 mv 7 23]) (
 .seq (.reg [
 qo 24 (.p (sliceAF 64 1 (tt 4) none (some (ii 8)) none)) [pp 4],
 mv 25 6,
 qo 26 (.a (cpyF 1 (tt 24) (tt 25))) [pp 24, pp 25]]) (
 .seq (.reg [
 qo 27 (.p (sliceAF 64 1 (tt 4) (some (ii 8)) (some (ii 52)) (some (ii 52)))) [pp 4],
 mv 28 1,
 qo 29 (.a (cpyF 1 (tt 27) (tt 28))) [pp 27, pp 28]]) (
 .seq (.reg [
 qo 31 (.p (sliceAF 64 1 (tt 4) none (some (ii 52)) (some (ii 52)))) [pp 4],
 qo 32 (.c (callF (ff 69) [(tt 31)])) [pp 31],
 qo 33 (.p (convF .u64 (tt 32))) [pp 32],
 qo 34 (.c (callF (ff 68) [(tt 33), (ii 4)])) [pp 33],
 mv 30 34,
 qo 35 (.p (extF (tt 30) 0)) [pp 30],
 qo 36 (.p (extF (tt 30) 1)) [pp 30],
 mv 8 35,
 mv 9 36]) (
 .seq (.reg [
 qo 37 (.p (sliceAF 64 1 (tt 4) (some (ii 52)) (some (ii 56)) (some (ii 56)))) [pp 4],
 mv 38 8,
 qo 39 (.a (cpyF 1 (tt 37) (tt 38))) [pp 37, pp 38]]) (
 .seq (.reg [
 qo 40 (.p (sliceAF 64 1 (tt 4) (some (ii 56)) none none)) [pp 4],
 mv 41 6,
 qo 42 (.a (cpyF 1 (tt 40) (tt 41))) [pp 40, pp 41]]) (
 .seq (.reg [
 qo 43 (.r (loadF (tt 4) 64 .bk)) [pp 4],
 qn (.a (storeF (tt 4) (tt 43) 64)) [pp 4, pp 43],
 qo 5 (.p (S.get (ii 0))) []]) (
 .ret)))))))))⟩
theorem c57_eq : fnOf Try.prog 57 = some c57 := by kernel_rfl
def layB : Nat → Nat → List Nat → Nat
  | B, _, [] => B
  | B, o, x :: xs => layB (setByte B o x) (o + 1) xs
theorem layB_byte : ∀ (xs : List Nat) (B o : Nat), (∀ x ∈ xs, x < 256) → ∀ j, byte (layB B o xs) j = if o ≤ j ∧ j < o + xs.length then xs.getD (j - o) 0 else byte B j
  | [], B, o, _, j => by
    rw [if_neg (by simp; try omega)]; rfl
  | x :: xs, B, o, h, j => by
    show byte (layB (setByte B o x) (o + 1) xs) j = _
    rw [layB_byte xs (setByte B o x) (o + 1) (fun z hz => h z (List.mem_cons_of_mem _ hz)) j, byte_setByte _ _ _ _ (h x (List.mem_cons_self ..))]
    by_cases h1 : j = o
    · subst h1
      rw [if_neg (by omega), if_pos rfl, if_pos (by simp), Nat.sub_self]; rfl
    · by_cases h2 : o + 1 ≤ j ∧ j < o + 1 + xs.length
      · rw [if_pos h2, if_pos (by simp; omega), show j - o = (j - (o + 1)) + 1 by omega]; rfl
      · rw [if_neg h2, if_neg h1, if_neg (by simp; omega)]
theorem layB_lt : ∀ (xs : List Nat) (B o : Nat), (∀ x ∈ xs, x < 256) → o + xs.length ≤ 64 → B < 256 ^ 64 → layB B o xs < 256 ^ 64
  | [], B, o, _, _, hB => hB
  | x :: xs, B, o, h, hl, hB => by
    rw [List.length_cons] at hl
    exact layB_lt xs (setByte B o x) (o + 1) (fun z hz => h z (List.mem_cons_of_mem _ hz)) (by omega) (setByte_lt _ _ _ (h x (List.mem_cons_self ..)) (by omega) hB)
theorem store_lay {b : Bk} : ∀ (xs : List Nat) (o : Nat) (H : Heap) (B : Nat), H.get b = some (.rows false 64 [[.blk B]]) → o + xs.length ≤ 64 → (∀ x ∈ xs, x < 256) →
    ∃ H', storeElems b 1 (rowsN xs) o H = some H' ∧ H'.get b = some (.rows false 64 [[.blk (layB B o xs)]]) ∧ Turns (fun c => c = b) H H' ∧ H'.next = H.next
  | [], o, H, B, h, hl, hx => ⟨H, rfl, h, Turns.refl _ _, rfl⟩
  | x :: xs, o, H, B, h, hl, hx => by
    rw [List.length_cons] at hl
    have st := disk.cell_store_byte h (j := o) (by omega) (hx x (List.mem_cons_self ..))
    obtain ⟨H', e, hg, hT, hn⟩ := store_lay (b := b) xs (o + 1) (H.set b (.rows false 64 [[.blk (setByte B o x)]])) (setByte B o x) (by rw [Heap.get_set, if_pos rfl]) (by omega) (fun z hz => hx z (List.mem_cons_of_mem _ hz))
    refine ⟨H', ?_, hg, (Turns.set (X := fun c => c = b) rfl H _).trans hT, by rw [hn]; simp⟩
    show (match storeAt H ⟨b, o⟩ [.int .u8 (x : Int)] with | some H' => storeElems b 1 (rowsN xs) (Nat.add o 1) H' | none => none) = _
    rw [st]
    exact e
theorem copy_lay {H : Heap} {b : Bk} {B o dl dc dx sl sc sx : Nat} {sp : Ptr} {xs : List Nat} (h : H.get b = some (.rows false 64 [[.blk B]])) (hs : elems H sp.b 1 sl sp.o = some (rowsN xs)) (hl : xs.length = sl) (h0 : sl ≠ 0) (hd : sl ≤ dl) (ho : o + sl ≤ 64) (hx : ∀ x ∈ xs, x < 256) :
    ∃ H', copyV 1 H (.slice (some ⟨b, o⟩) dl dc dx) (.slice (some sp) sl sc sx) = some (.int .i64 (sl : Int), H') ∧ H'.get b = some (.rows false 64 [[.blk (layB B o xs)]]) ∧ Turns (fun c => c = b) H H' ∧ H'.next = H.next := by
  obtain ⟨H', e, hg, hT, hn⟩ := store_lay (b := b) xs o H B h (by omega) hx
  refine ⟨H', ?_, hg, hT, hn⟩
  have hm : min sl dl = sl := by omega
  unfold copyV
  simp only [hm]
  have hb : sl.beq 0 = false := beq_false.2 h0
  have hf : firstE H 1 (.slice (some sp) sl sc sx) = some (rowsN xs) := hs
  rw [hb, hf]
  simp only [e, Option.map_some]
  rfl
theorem elems_lst {H0 H : Heap} {l : List Nat} {v : V} (h : Lst H0 H 1 (rowsN l) v) {k m c o : Nat} (e : v = .slice (some ⟨.run k, 0⟩) m c o) (hm : m = l.length) : elems H (.run k) 1 m 0 = some (rowsN l) := by
  rcases h with ⟨e1, e2⟩ | ⟨j, _, e2, hg, _, _⟩
  · rw [e] at e2; cases e2
  · rw [e] at e2
    have hk := (V.slice.inj e2).1
    cases hk
    have : ∀ (L : List Nat) (a : Nat), (∀ i, i < L.length → (rowsN l)[a + i]? = (rowsN L)[i]?) → elems H (.run k) 1 L.length a = some (rowsN L) := by
      intro L
      induction L with
      | nil => intro a _; rfl
      | cons x L ih =>
        intro a hh
        have e1 := hh 0 (by simp)
        rw [Nat.add_zero] at e1
        have lk : loadAt H ⟨.run k, a⟩ 1 = some [.int .u8 (x : Int)] := by
          rw [loadAt_eq hg (r := [.int .u8 (x : Int)]) (by rw [Nat.div_one, nth_eq, e1]; rfl), Nat.mod_one]
          rfl
        show elems H (.run k) 1 (L.length + 1) a = _
        unfold elems
        rw [lk]
        simp only
        rw [show Nat.add a 1 = a + 1 from rfl, ih (a + 1) (fun i hi => by
          have := hh (i + 1) (by simp; omega)
          rw [show a + 1 + i = a + (i + 1) by omega, this]; rfl)]
        rfl
    rw [hm]
    exact this l 0 (fun i hi => by rw [Nat.zero_add])
theorem elems_bod {H : Heap} {k : Nat} {c : Nat → Nat} {N : Nat} (h : BodyAt H k c N) : ∀ n j, j + n ≤ N → elems H (.run k) 1 n j = some (rowsN (stl c n j))
  | 0, _, _ => rfl
  | n + 1, j, hj => by
    unfold elems
    rw [h.load (show j < N by omega)]
    simp only
    rw [show Nat.add j 1 = j + 1 from rfl, elems_bod h n (j + 1) (by omega)]
    rfl
theorem digs_len' (N n : Nat) : (stl (dig N) n 0).length = n := stl_len _ _ _
theorem stl_dig_lt (N n : Nat) : ∀ x ∈ stl (dig N) n 0, x < 256 := by
  rw [← digs_stl]; exact digs_lt N n
theorem pput7_ok {H0 H : Heap} {l : List Nat} {y : V} (hy : Lst H0 H 1 (rowsN l) y) (hne : l ≠ []) (hl : l.length ≤ 44) (hb : ∀ x ∈ l, x < 256) {N : Nat} (hN : N < 18446744073709551616) (hN0 : N ≠ 0) {lf : Nat} (hlf : 80 < lf) (n : Nat) :
    ret (callS Try.prog S0 lf (n + 4) 57 [.int .u64 (N : Int), y] H) fun v H' => Turns Z H H' ∧ v = .tuple [.blk (blkOf N l), .int .i64 0] := by
  have l0 : l.length ≠ 0 := by simpa using hne
  have t1 := Turns.add Z H (.rows false 64 [[.blk 0]])
  have hg1 : (H.add (.rows false 64 [[.blk 0]])).get (.run H.next) = some (.rows false 64 [[.blk 0]]) := by rw [Heap.get_add, if_pos rfl]
  have hn1 : (H.add (.rows false 64 [[.blk 0]])).next = H.next + 1 := by simp
  obtain ⟨H1, hH1⟩ : ∃ K, H.add (.rows false 64 [[.blk 0]]) = K := ⟨_, rfl⟩
  rw [hH1] at t1 hg1 hn1
  have b0 : ((N : Int) == 0) = false := by simp; exact hN0
  obtain ⟨ky, ey, hky, _⟩ := bload hy hne
  have g44 : ¬ ((44 : Int) < (l.length : Int)) := by omega
  obtain ⟨vn, H2, en, t2, hvn⟩ := pnput_ok H1 hN (s := 8) (by omega) (show 17 < lf by omega) (n + 2)
  change callS Try.prog S0 lf (n + 3) 68 [.int .u64 (N : Int), .int .i64 8] H1 = _ at en
  have hz8 : N / 256 ^ 8 = 0 := Nat.div_eq_of_lt (by rw [show (256 : Nat) ^ 8 = 18446744073709551616 by decide +kernel]; exact hN)
  rcases hvn with ⟨_, k1, rfl, hk1, hk1'⟩ | ⟨h, _⟩
  rotate_left
  · exact absurd hz8 h
  have g2 : H2.get (.run H.next) = some (.rows false 64 [[.blk 0]]) := (t2.same (.run H.next) (by show _ < _; omega) (fun h => h)).trans hg1
  obtain ⟨H3, e3, g3, t3, n3⟩ := copy_lay (dl := 8) (dc := 64) (dx := 0) (sc := 8) (sx := 0) (sp := ⟨.run k1, 0⟩) g2 (elems_bod hk1 8 0 (by omega)) (digs_len' N 8) (by omega) (by omega) (show 0 + 8 ≤ 64 by omega) (stl_dig_lt N 8)
  have hy3 : Lst H0 H3 1 (rowsN l) y := ((hy.turns t1 (fun _ _ => id)).turns t2 (fun _ _ => id)).turns t3 (fun c hc e => by
    subst e
    obtain ⟨_, _, _, _, ec, e'⟩ := hc
    rw [ey] at ec
    have := (V.slice.inj ec).1
    cases this
    exact absurd (Bk.run.inj e') (by show ¬ H.next = ky; omega))
  have hky2 : ky < H2.next := Nat.lt_of_lt_of_le hky (t1.trans t2).next
  obtain ⟨H4, e4, g4, t4, n4⟩ := copy_lay (dl := 44) (dc := 44) (dx := 0) (sc := l.length) (sx := 1) (sp := ⟨.run ky, 0⟩) g3 (elems_lst hy3 ey rfl) rfl l0 hl (show 8 + l.length ≤ 64 by omega) hb
  have hD8 := stl_dig_lt N 8
  have hD8l := digs_len' N 8
  have hbyte : ∀ j, byte (layB (layB 0 0 (stl (dig N) 8 0)) 8 l) j = if j < 52 then (headOf N l).getD j 0 else 0 := fun j => by
    rw [layB_byte l _ 8 hb j, layB_byte _ 0 0 hD8 j, hD8l]
    have hz : byte 0 j = 0 := by
      show (0 / 256 ^ j) % 256 = 0
      rw [Nat.zero_div]
    have hh : headOf N l = stl (dig N) 8 0 ++ (l ++ List.replicate (44 - l.length) 0) := by unfold headOf; rw [digs_stl]
    rw [hh]
    by_cases h1 : 8 ≤ j ∧ j < 8 + l.length
    · rw [if_pos h1, if_pos (by omega)]
      rw [List.getD_eq_getElem?_getD, List.getD_eq_getElem?_getD, List.getElem?_append_right (by rw [hD8l]; omega), hD8l, List.getElem?_append_left (by omega)]
    · rw [if_neg h1]
      by_cases h2 : 0 ≤ j ∧ j < 0 + 8
      · rw [if_pos h2, if_pos (by omega)]
        rw [List.getD_eq_getElem?_getD, List.getD_eq_getElem?_getD, List.getElem?_append_left (by rw [hD8l]; omega), Nat.sub_zero]
      · rw [if_neg h2, hz]
        by_cases h3 : j < 52
        · rw [if_pos h3, List.getD_eq_getElem?_getD, List.getElem?_append_right (by rw [hD8l]; omega), hD8l, List.getElem?_append_right (by omega), List.getElem?_replicate, if_pos (by omega)]; rfl
        · rw [if_neg h3]
  have eo := of_ok (H := H4) (p := ⟨.run H.next, 0⟩) (len := 52) (cap := 52) (loose := 0) (c := byte (layB (layB 0 0 (stl (dig N) 8 0)) 8 l)) (by omega) (fun i _ => byte_lt _ _) (fun i hi => by simpa using disk.cell_load_byte g4 (j := i) (by omega)) lf n (by omega)
  have hcs : crcN (byte (layB (layB 0 0 (stl (dig N) 8 0)) 8 l)) 52 = crcN (fun i => (headOf N l).getD i 0) 52 := by
    have : ∀ {f g : Nat → Nat} (m : Nat), (∀ i, i < m → f i = g i) → crcN f m = crcN g m := by
      intro f g m
      induction m with
      | zero => intro _; rfl
      | succ m ih =>
        intro hh
        show crc.takeN (crcN f m) (f m) = crc.takeN (crcN g m) (g m)
        rw [ih (fun i hi => hh i (by omega)), hh m (by omega)]
    exact this 52 (fun i hi => by rw [hbyte i, if_pos hi])
  rw [hcs] at eo
  change _ = some (Rs.v (V.int .u32 ((sumOf N l : Nat) : Int)), H4) at eo
  have hs4 : sumOf N l < 4294967296 := notN_lt (crcN_lt (fun i _ => getD_lt (head_lt hb) i))
  have hro : rowOf N l = (headOf N l ++ digs (sumOf N l) 4) ++ digs N 8 := rfl
  obtain ⟨sm, hsm⟩ : ∃ z, z = sumOf N l := ⟨_, rfl⟩
  rw [← hsm] at eo hs4 hro
  have w64 : IntKind.u64.wrap (sm : Int) = (sm : Int) := wrap_u64 (by omega)
  obtain ⟨vs, H5, es, t5, hvs⟩ := pnput_ok H4 (N := sm) (by omega) (s := 4) (by omega) (show 17 < lf by omega) (n + 2)
  change callS Try.prog S0 lf (n + 3) 68 [.int .u64 (sm : Int), .int .i64 4] H4 = _ at es
  have hz4 : sm / 256 ^ 4 = 0 := Nat.div_eq_of_lt hs4
  rcases hvs with ⟨_, k5, rfl, hk5, hk5'⟩ | ⟨h, _⟩
  rotate_left
  · exact absurd hz4 h
  have o4 : H.next < H4.next := by rw [n4, n3]; have := t2.next; omega
  have g5 : H5.get (.run H.next) = _ := (t5.same (.run H.next) (by show _ < _; exact o4) (fun h => h)).trans g4
  obtain ⟨H6, e6, g6, t6, n6⟩ := copy_lay (dl := 4) (dc := 4) (dx := 0) (sc := 4) (sx := 0) (sp := ⟨.run k5, 0⟩) g5 (elems_bod hk5 4 0 (by omega)) (digs_len' sm 4) (by omega) (by omega) (show 52 + 4 ≤ 64 by omega) (stl_dig_lt sm 4)
  have nk1 : k1 ≠ H.next := by omega
  have hk1o : k1 < H2.next := hk1.old
  have b1 : BodyAt H6 k1 (dig N) 8 := by
    have s3 : H3.get (.run k1) = H2.get (.run k1) := t3.same (.run k1) hk1o (run_ne nk1)
    have s4 : H4.get (.run k1) = H3.get (.run k1) := t4.same (.run k1) (by show _ < _; omega) (run_ne nk1)
    have s5 : H5.get (.run k1) = H4.get (.run k1) := t5.same (.run k1) (by show _ < _; omega) (fun h => h)
    have h5 := t5.next
    have s6 : H6.get (.run k1) = H5.get (.run k1) := t6.same (.run k1) (by show _ < _; omega) (run_ne nk1)
    exact ⟨by rw [s6, s5, s4, s3]; exact hk1.own, by omega⟩
  obtain ⟨H7, e7, g7, t7, n7⟩ := copy_lay (dl := 8) (dc := 8) (dx := 0) (sc := 8) (sx := 0) (sp := ⟨.run k1, 0⟩) g6 (elems_bod b1 8 0 (by omega)) (digs_len' N 8) (by omega) (by omega) (show 56 + 8 ≤ 64 by omega) (stl_dig_lt N 8)
  have hX : layB (layB (layB (layB 0 0 (stl (dig N) 8 0)) 8 l) 52 (stl (dig sm) 4 0)) 56 (stl (dig N) 8 0) = blkOf N l := by
    have hrl := row_len (N := N) hl
    have hrt := row_lt (N := N) hb
    have z64 : (0 : Nat) < 256 ^ 64 := Nat.pow_pos (by decide)
    refine disk.eq_of_bytes (layB_lt _ _ _ (stl_dig_lt N 8) (by rw [digs_len']; omega) (layB_lt _ _ _ (stl_dig_lt sm 4) (by rw [digs_len']; omega) (layB_lt _ _ _ hb (by omega) (layB_lt _ _ _ hD8 (by rw [hD8l]; omega) z64)))) (fillN_lt (fun i => getD_lt (l := rowOf N l) hrt i) 64 (Nat.le_refl _)) (fun j hj => ?_)
    have hr : byte (blkOf N l) j = (rowOf N l).getD j 0 := by
      unfold blkOf
      rw [byte_fillN (fun i => getD_lt (l := rowOf N l) hrt i), if_pos hj]
    rw [hr, hro, layB_byte _ _ 56 (stl_dig_lt N 8) j, layB_byte _ _ 52 (stl_dig_lt sm 4) j, digs_len', digs_len', hbyte j, digs_stl, digs_stl]
    have hh := head_len (N := N) hl
    by_cases h1 : 56 ≤ j ∧ j < 56 + 8
    · rw [if_pos h1, List.getD_eq_getElem?_getD, List.getD_eq_getElem?_getD, List.getElem?_append_right (by rw [List.length_append, hh, digs_len']; omega), List.length_append, hh, digs_len']
    · rw [if_neg h1]
      by_cases h2 : 52 ≤ j ∧ j < 52 + 4
      · rw [if_pos h2, List.getD_eq_getElem?_getD, List.getD_eq_getElem?_getD, List.getElem?_append_left (by rw [List.length_append, hh, digs_len']; omega), List.getElem?_append_right (by omega), hh]
      · rw [if_neg h2, if_pos (by omega), List.getD_eq_getElem?_getD, List.getD_eq_getElem?_getD, List.getElem?_append_left (by rw [List.length_append, hh, digs_len']; omega), List.getElem?_append_left (by omega)]
  rw [hX] at g7
  have lX : loadAt H7 ⟨.run H.next, 0⟩ 64 = some [.blk (blkOf N l)] := by rw [loadAt_eq g7 (r := [.blk (blkOf N l)]) rfl]; exact Dp _ _
  have sX := disk.cell_store (v := blkOf N l) g7
  have lY : loadAt (H7.set (.run H.next) (.rows false 64 [[.blk (blkOf N l)]])) ⟨.run H.next, 0⟩ 64 = some [.blk (blkOf N l)] := by rw [loadAt_eq (b := .run H.next) (r := [.blk (blkOf N l)]) (by rw [Heap.get_set, if_pos rfl]) rfl]; exact Dp _ _
  have later : ∀ {K K' : Heap}, Turns Z H K → Turns (fun c => c = .run H.next) K K' → Turns Z H K' := fun t t' => t.later t' (fun c ho e => by subst e; exact absurd ho (Heap.not_old (Nat.le_refl _)))
  have t7' : Turns Z H H7 := later (later ((later (later (t1.trans t2) t3) t4).trans t5) t6) t7
  rw [ey]
  have bb1 : bounds 64 64 none (some (.int .i64 8)) none = some (0, 8, 64) := rfl
  have bb2 : bounds 64 64 (some (.int .i64 8)) (some (.int .i64 52)) (some (.int .i64 52)) = some (8, 52, 52) := rfl
  have bb3 : bounds 64 64 none (some (.int .i64 52)) (some (.int .i64 52)) = some (0, 52, 52) := rfl
  have bb4 : bounds 64 64 (some (.int .i64 52)) (some (.int .i64 56)) (some (.int .i64 56)) = some (52, 56, 56) := rfl
  have bb5 : bounds 64 64 (some (.int .i64 56)) none none = some (56, 64, 64) := rfl
  generalize blkOf N l = X at *
  refine ret_call rfl c57_eq ?_
  simp only [c57, hH1, b0, g44, en, e3, e4, eo, w64, es, e6, e7, lX, sX, lY, bb1, bb2, bb3, bb4, bb5, sliceAF, oget, sy, tup, ↓reduceIte, Nat.reduceEqDiff, Nat.reduceAdd, Nat.reduceSub, Nat.reduceMul, Nat.reduceDiv, Nat.reduceMod, Nat.reduceLeDiff, Int.reduceBEq, reduceCtorEq]
  exact ⟨trivial, .inr trivial, _, rfl, t7'.setnew (Nat.le_refl _) _, rfl⟩
end Go.Proofs.Ytabebpemfinejaa.draft

set_option linter.unusedVariables false
set_option linter.unusedSimpArgs false
set_option maxRecDepth 10000
namespace Go.Proofs.Ytabebpemfinejaa.draft
open Go.Am
noncomputable def c58 : CFn := ⟨[.tmp (pp 2)],
 .seq (.reg [
 qo 1 (.m (boxF 23 (tt 0))) [pp 0],
 qo 2 (.p (S.get (.c (.slice none 0 0 0)))) []]) (
 .seq (.reg [
 qo 9 (.p (faddrF (tt 1) 2)) [pp 1],
 qo 10 (.r (loadF (tt 9) 21 .ag)) [pp 9],
 qo 3 (.m (allocF 21 [.int .i64 0, .int .i64 0, .int .i64 0, .int .u8 0, .int .u8 0, .int .u8 0, .int .u8 0, .int .u8 0, .int .u8 0, .int .u8 0, .int .u8 0, .int .u8 0, .int .u8 0, .int .u8 0, .int .u8 0, .int .u8 0, .int .u8 0, .int .u8 0, .int .u8 0, .int .i64 0, .bool false])) [],
 qn (.a (storeF (tt 3) (tt 10) 21)) [pp 3, pp 10]]) (
 .seq (.reg [
 qo 12 (.p (faddrF (tt 3) 3)) [pp 3],
 qo 13 (.p (sliceAF 16 1 (tt 12) none none none)) [pp 12],
 qo 14 (.c (callF (ff 70) [(tt 13), (ii 2)])) [pp 13],
 mv 11 14,
 qo 15 (.p (extF (tt 11) 0)) [pp 11],
 qo 16 (.p (extF (tt 11) 1)) [pp 11],
 mv 4 15,
 mv 5 16]) (
 .seq (.reg [
 qo 6 (.p (S.get (.c (.int .u64 0)))) []]) (
 .seq (.seq (.reg [
 qo 17 (.p (faddrF (tt 3) 20)) [pp 3],
 qo 18 (.r (loadF (tt 17) 1 .sc)) [pp 17]]) (
 .cond (tt 18) (.reg [
 qo 6 (.p (S.get (.c (.int .u64 1)))) []]) (.skip))) (
 .seq (.reg [
 qo 7 (.m (allocF 1 [.slice none 0 0 0])) []]) (
 .seq (.reg [
 qo 19 (.p (mkfnF (.func 71) [] [(tt 7)])) [pp 7],
 mv 8 19]) (
 .seq (.reg [
 mv 20 8,
 qo 21 (.p (faddrF (tt 1) 0)) [pp 1],
 qo 22 (.r (loadF (tt 21) 1 .sc)) [pp 21],
 qo 23 (.c (callF (tt 20) [(tt 22), (ii 8)])) [pp 20, pp 22]]) (
 .seq (.reg [
 mv 24 8,
 qo 25 (.p (faddrF (tt 3) 0)) [pp 3],
 qo 26 (.p (faddrF (tt 25) 0)) [pp 25],
 qo 27 (.r (loadF (tt 26) 1 .sc)) [pp 26],
 qo 28 (.p (convF .u64 (tt 27))) [pp 27],
 qo 29 (.c (callF (tt 24) [(tt 28), (ii 1)])) [pp 24, pp 28]]) (
 .seq (.reg [
 mv 30 8,
 qo 31 (.p (faddrF (tt 3) 0)) [pp 3],
 qo 32 (.p (faddrF (tt 31) 1)) [pp 31],
 qo 33 (.r (loadF (tt 32) 1 .sc)) [pp 32],
 qo 34 (.p (convF .u64 (tt 33))) [pp 33],
 qo 35 (.c (callF (tt 30) [(tt 34), (ii 2)])) [pp 30, pp 34]]) (
 .seq (.reg [
 mv 36 8,
 qo 37 (.p (faddrF (tt 3) 0)) [pp 3],
 qo 38 (.p (faddrF (tt 37) 2)) [pp 37],
 qo 39 (.r (loadF (tt 38) 1 .sc)) [pp 38],
 qo 40 (.p (convF .u64 (tt 39))) [pp 39],
 qo 41 (.c (callF (tt 36) [(tt 40), (ii 2)])) [pp 36, pp 40]]) (
 .seq (.reg [
 mv 42 8,
 qo 43 (.p (faddrF (tt 1) 1)) [pp 1],
 qo 44 (.r (loadF (tt 43) 1 .sc)) [pp 43],
 qo 45 (.p (convF .u64 (tt 44))) [pp 44],
 qo 46 (.c (callF (tt 42) [(tt 45), (ii 1)])) [pp 42, pp 45]]) (
 .seq (.reg [
 qo 47 (.r (loadF (tt 7) 1 .sc)) [pp 7],
 mv 48 4,
 qo 49 (.a (appF 1 1 (tt 47) (tt 48))) [pp 47, pp 48],
 qn (.a (storeF (tt 7) (tt 49) 1)) [pp 7, pp 49]]) (
 .seq (.reg [
 mv 50 8,
 qo 51 (.p (faddrF (tt 3) 19)) [pp 3],
 qo 52 (.r (loadF (tt 51) 1 .sc)) [pp 51],
 qo 53 (.p (convF .u64 (tt 52))) [pp 52],
 qo 54 (.c (callF (tt 50) [(tt 53), (ii 2)])) [pp 50, pp 53]]) (
 .seq (.reg [
 mv 55 8,
 mv 56 6,
 qo 57 (.c (callF (tt 55) [(tt 56), (ii 1)])) [pp 55, pp 56]]) (
 .seq (.reg [
 qo 58 (.r (loadF (tt 7) 1 .sc)) [pp 7],
 mv 2 58]) (
 .ret))))))))))))))))⟩
theorem c58_eq : fnOf Try.prog 58 = some c58 := by kernel_rfl
noncomputable def c71 : CFn := ⟨[],
 .seq (.reg [
 mv 8 0,
 mv 9 1,
 qo 10 (.c (callF (ff 68) [(tt 8), (tt 9)])) [pp 8, pp 9],
 mv 7 10,
 qo 11 (.p (extF (tt 7) 0)) [pp 7],
 qo 12 (.p (extF (tt 7) 1)) [pp 7],
 mv 5 11,
 mv 6 12]) (
 .reg [
 qo 13 (.r (loadF (tt 2) 1 .sc)) [pp 2],
 mv 14 5,
 qo 15 (.a (appF 1 1 (tt 13) (tt 14))) [pp 13, pp 14],
 qn (.a (storeF (tt 2) (tt 15) 1)) [pp 2, pp 15]])⟩
theorem c71_eq : fnOf Try.prog 71 = some c71 := by kernel_rfl
noncomputable def c45 : CFn := ⟨[.cell (pp 4) 64 .bk, .tmp (pp 5)],
 .seq (.reg [
 qo 3 (.m (boxF 23 (tt 1))) [pp 1],
 qo 4 (.m (allocF 64 [.blk 0])) [],
 qo 5 (.p (S.get (ii 0))) []]) (
 .seq (.seq (.reg [
 mv 6 0,
 qo 7 (.c (callF (ff 55) [(tt 6)])) [pp 6],
 qo 8 (.p (unF .not (tt 7))) [pp 7],
 mv 9 8,
 qg 10 (.r (loadF (tt 3) 23 .ag)) 9 false [pp 3],
 qg 11 (.c (callF (ff 56) [(tt 10)])) 9 false [pp 10],
 qg 12 (.p (unF .not (tt 11))) 9 false [pp 11],
 qo 13 (.p (pickF (tt 9) (.c (.bool true)) (tt 12))) [pp 9, pp 12]]) (
 .cond (tt 13) (.seq (.reg [
 qo 14 (.p (buildF [.blk 0] .bk [])) [],
 qn (.a (storeF (tt 4) (tt 14) 64)) [pp 4, pp 14],
 qo 5 (.p (S.get (ii 2))) []]) (
 .ret)) (.skip))) (
 .seq (.reg [
 mv 15 0,
 qo 16 (.r (loadF (tt 3) 23 .ag)) [pp 3],
 qo 17 (.c (callF (ff 58) [(tt 16)])) [pp 16],
 qo 18 (.c (callF (ff 57) [(tt 15), (tt 17)])) [pp 15, pp 17],
 qo 19 (.p (extF (tt 18) 0)) [pp 18],
 qo 20 (.p (extF (tt 18) 1)) [pp 18],
 qn (.a (storeF (tt 4) (tt 19) 64)) [pp 4, pp 19],
 mv 5 20]) (
 .ret)))⟩
theorem c45_eq : fnOf Try.prog 45 = some c45 := by kernel_rfl
structure LayI (H0 K : Heap) (b : Nat) (l : List Nat) : Prop where
  y : ∃ y, K.get (.run b) = some (.rows false 1 [[y]]) ∧ Lst H0 K 1 (rowsN l) y
  lo : b < H0.next
  t : Turns (fun c => c = .run b) H0 K
theorem cellV {K : Heap} {b : Nat} {p : Option Ptr} {n c o : Nat} (g : K.get (.run b) = some (.rows false 1 [[.slice p n c o]])) : loadAt K ⟨.run b, 0⟩ 1 = some [.slice p n c o] := by
  rw [loadAt_eq g (r := [.slice p n c o]) rfl]; exact cut_hit _ [] rfl
theorem cellS {K : Heap} {b : Nat} {p q : Option Ptr} {n c o n' c' o' : Nat} (g : K.get (.run b) = some (.rows false 1 [[.slice p n c o]])) : storeAt K ⟨.run b, 0⟩ [.slice q n' c' o'] = some (K.set (.run b) (.rows false 1 [[.slice q n' c' o']])) :=
  storeAt_eq g (o := 0) (vs := [.slice q n' c' o']) (r := [.slice p n c o]) (r' := [.slice q n' c' o']) rfl rfl
theorem LayI.app {H0 K K1 : Heap} {b : Nat} {l xs : List Nat} (h : LayI H0 K b l) (t1 : Turns Z K K1) {x : V} (hx : (xs = [] ∧ x = .slice none 0 0 0) ∨ ∃ k, x = .slice (some ⟨.run k, 0⟩) xs.length xs.length 0 ∧ elems K1 (.run k) 1 xs.length 0 = some (rowsN xs) ∧ xs ≠ []) (hl : l.length + xs.length ≤ 1000) :
    ∃ (p : Option Ptr) (n1 c1 o1 : Nat) (q : Option Ptr) (n2 c2 o2 : Nat) (F F' : Heap), loadAt K1 ⟨.run b, 0⟩ 1 = some [.slice p n1 c1 o1] ∧ appendV 1 1 K1 (.slice p n1 c1 o1) x = some (.slice q n2 c2 o2, F) ∧ storeAt F ⟨.run b, 0⟩ [.slice q n2 c2 o2] = some F' ∧ LayI H0 F' b (l ++ xs) := by
  obtain ⟨y, gy, hy⟩ := h.y
  have hbK : b < K.next := Nat.lt_of_lt_of_le h.lo h.t.next
  have gy1 := (t1.same (.run b) hbK (fun h => h)).trans gy
  have hy1 := hy.turns t1 (fun _ _ => id)
  have hT1 : Turns (fun c => c = .run b) H0 K1 := h.t.trans (t1.wide (fun _ hc => hc.elim))
  have ap : ∃ w F, appendV 1 1 K1 y x = some (w, F) ∧ Lst H0 F 1 (rowsN (l ++ xs)) w ∧ Turns (Bof y) K1 F := by
    rcases hx with ⟨rfl, rfl⟩ | ⟨k, rfl, he, hne⟩
    · have hn : Lst K1 K1 1 (rowsN []) (.slice none 0 0 0) := Lst.nil K1 K1 1
      obtain ⟨w, F, ea, hw, ta⟩ := appL (Q := rowsN []) hy1 hn (rowsN_bytes _) hT1.next (by rw [rowsN_len, rowsN_len]; omega)
      rw [← rowsN_app] at hw
      exact ⟨w, F, ea, hw, ta⟩
    · have hne' : rowsN xs ≠ [] := fun e => hne (List.map_eq_nil_iff.1 e)
      have hrl := rowsN_len xs
      obtain ⟨F, ea, hw, ta, _⟩ := hy1.app (by' := 1) (x := .slice (some ⟨.run k, 0⟩) xs.length xs.length 0) hT1.next he (by show some xs.length = _; rw [hrl]) hne' (by decide) (by rw [rowsN_len, rowsN_len]; omega) (by rw [rowsN_len, rowsN_len]; omega)
      rw [← rowsN_app] at hw
      exact ⟨_, F, ea, hw, ta⟩
  obtain ⟨w, F, ea, hw, ta⟩ := ap
  have nb : ¬ Bof y (.run b) := fun hc => by
    obtain ⟨j, e, h1, _⟩ := hy1.bof hc
    have := Bk.run.inj e
    have := h.lo
    omega
  have gF : F.get (.run b) = some (.rows false 1 [[y]]) := (ta.same (.run b) (by show _ < _; exact Nat.lt_of_lt_of_le hbK t1.next) nb).trans gy1
  have hbF : b < F.next := Nat.lt_of_lt_of_le (Nat.lt_of_lt_of_le hbK t1.next) ta.next
  obtain ⟨p, c1, o1, ey⟩ := hy1.val
  obtain ⟨q, c2, o2, ew⟩ := hw.val
  have ea' := ea
  rw [ey] at gy1 gF
  rw [ey, ew] at ea'
  refine ⟨p, _, c1, o1, q, _, c2, o2, F, _, cellV gy1, ea', cellS gF, ⟨⟨w, by rw [Heap.get_set, if_pos rfl, ew], ?_⟩, h.lo, ?_⟩⟩
  · refine hw.turns (Turns.set (X := fun c => c = .run b) rfl F _) (fun c hc e => ?_)
    obtain ⟨j, e', h1, _⟩ := hw.bof hc
    rw [e] at e'
    have := Bk.run.inj e'
    have := h.lo
    omega
  · exact (hT1.later ta (fun c ho hb => by
      obtain ⟨j, e', h1, _⟩ := hy1.bof hb
      subst e'
      exact absurd ho (Heap.not_old h1))).setm rfl _
theorem lay_ok {H0 K : Heap} {b : Nat} {l : List Nat} (h : LayI H0 K b l) (hl : l.length ≤ 900) {N s : Nat} (hN : N < 18446744073709551616) (hs : 1 ≤ s ∧ s ≤ 8) {lf : Nat} (hlf : 17 < lf) (n : Nat) :
    ret (callS Try.prog S0 lf (n + 2) 71 [.int .u64 (N : Int), .int .i64 (s : Int), .ptr (some ⟨.run b, 0⟩)] K) fun v K' => v = .tuple [] ∧ LayI H0 K' b (l ++ putB N s) := by
  obtain ⟨v, K1, e1, t1, hv⟩ := pnput_ok K hN hs hlf n
  have hp := putB_le N s
  refine ret_call rfl c71_eq ?_
  rcases hv with ⟨h0, k, rfl, hk, _⟩ | ⟨h0, rfl⟩
  · have e : putB N s = stl (dig N) s 0 := by unfold putB; rw [if_pos h0, digs_stl]
    have hsl : (stl (dig N) s 0).length = s := stl_len _ _ _
    obtain ⟨p, n1, c1, o1, q, n2, c2, o2, F, F', a1, a2, a3, a4⟩ := h.app t1 (xs := stl (dig N) s 0) (x := .slice (some ⟨.run k, 0⟩) s s 0) (.inr ⟨k, by rw [hsl], by rw [hsl]; exact elems_bod hk s 0 (by omega), fun e => by rw [e] at hsl; simp at hsl; omega⟩) (by omega)
    rw [← e] at a4
    simp only [c71, e1, a1, a2, a3, sy, tup, ↓reduceIte, Nat.reduceEqDiff, Nat.reduceAdd, Nat.reduceSub, Nat.reduceMul, Nat.reduceDiv, Nat.reduceMod, Nat.reduceLeDiff, Int.reduceBEq, reduceCtorEq]
    exact ⟨trivial, .inl trivial, _, rfl, rfl, a4⟩
  · have e : putB N s = [] := by unfold putB; rw [if_neg h0]
    obtain ⟨p, n1, c1, o1, q, n2, c2, o2, F, F', a1, a2, a3, a4⟩ := h.app t1 (xs := []) (x := .slice none 0 0 0) (.inl ⟨rfl, rfl⟩) (by simp; omega)
    rw [← e] at a4
    simp only [c71, e1, a1, a2, a3, sy, tup, ↓reduceIte, Nat.reduceEqDiff, Nat.reduceAdd, Nat.reduceSub, Nat.reduceMul, Nat.reduceDiv, Nat.reduceMod, Nat.reduceLeDiff, Int.reduceBEq, reduceCtorEq]
    exact ⟨trivial, .inl trivial, _, rfl, rfl, a4⟩
theorem pros_r {H : Heap} {b : Bk} {m s r : Int} {S : List Nat} {c : Int} {g : Bool} (h : RosAt H b m s r S c g) : loadAt H ⟨b, 2⟩ 1 = some [.int .i64 r] := by rw [ros_cut h (by omega) (by omega)]; rfl
theorem pros_g {H : Heap} {b : Bk} {m s r : Int} {S : List Nat} {c : Int} {g : Bool} (h : RosAt H b m s r S c g) : loadAt H ⟨b, 20⟩ 1 = some [.bool g] := by
  rw [ros_cut h (by omega) (by omega)]
  unfold rcells
  have e : 20 = [V.int .i64 m, .int .i64 s, .int .i64 r].length + ((sts S).length + 1) := by rw [sts_len, h.len]; rfl
  rw [e, List.drop_length_add_append, List.drop_length_add_append]
  rfl
def pzro : List V := [.int .i64 0, .int .i64 0, .int .i64 0, .int .u8 0, .int .u8 0, .int .u8 0, .int .u8 0, .int .u8 0, .int .u8 0, .int .u8 0, .int .u8 0, .int .u8 0, .int .u8 0, .int .u8 0, .int .u8 0, .int .u8 0, .int .u8 0, .int .u8 0, .int .u8 0, .int .i64 0, .bool false]
theorem put_pzro {S : List Nat} (hS : S.length = 16) (m s r c : Int) (g : Bool) : Go.Am.put pzro 0 (rcells m s r S c g) = some (rcells m s r S c g) := by
  match S, hS with
  | [_, _, _, _, _, _, _, _, _, _, _, _, _, _, _, _], _ => rfl
theorem pbody_ok (H : Heap) {id me m s r c : Nat} {g : Bool} {S : List Nat} (hid : id < 18446744073709551616) (hb : me < 65536 ∧ m < 65536 ∧ s < 65536 ∧ r < 65536 ∧ c < 65536) (hS : S.length = 16) (hS4 : ∀ i, i < 16 → S.getD i 0 < 4) {lf : Nat} (hlf : 80 < lf) (n : Nat) :
    ret (callS Try.prog S0 lf (n + 3) 58 [sup id me m s r S c g] H) fun v H' => Turns Z H H' ∧ ∃ K : Heap, H.next ≤ K.next ∧ Lst K H' 1 (rowsN (bodyN id me m s r S c g)) v := by
  obtain ⟨b1, b2, b3, b4, b5⟩ := hb
  have hzr : pzro = [.int .i64 0, .int .i64 0, .int .i64 0, .int .u8 0, .int .u8 0, .int .u8 0, .int .u8 0, .int .u8 0, .int .u8 0, .int .u8 0, .int .u8 0, .int .u8 0, .int .u8 0, .int .u8 0, .int .u8 0, .int .u8 0, .int .u8 0, .int .u8 0, .int .u8 0, .int .i64 0, .bool false] := rfl
  have t0 := Turns.add Z H (.rows false 23 [scells id me m s r S c g])
  have hg : (H.add (.rows false 23 [scells id me m s r S c g])).get (.run H.next) = some (.rows false 23 [scells id me m s r S c g]) := by rw [Heap.get_add, if_pos rfl]
  have hn0 : (H.add (.rows false 23 [scells id me m s r S c g])).next = H.next + 1 := by simp
  have hw := s_width hS id me m s r c g
  obtain ⟨H1, hH1⟩ : ∃ K, H.add (.rows false 23 [scells id me m s r S c g]) = K := ⟨_, rfl⟩
  rw [hH1] at t0 hg hn0
  have ga : (H1.add (.rows false 21 [pzro])).get (.run (H.next + 1)) = some (.rows false 21 [pzro]) := by rw [Heap.get_add, if_pos (by rw [hn0])]
  have sa := storeAt_eq ga (o := 0) (vs := rcells m s r S c g) (r := pzro) (r' := rcells m s r S c g) rfl (put_pzro hS _ _ _ _ _)
  have ta : Turns Z H1 ((H1.add (.rows false 21 [pzro])).set (.run (H.next + 1)) (.rows false 21 [rcells m s r S c g])) := (Turns.add Z H1 _).setnew (by omega) _
  have gr : ((H1.add (.rows false 21 [pzro])).set (.run (H.next + 1)) (.rows false 21 [rcells m s r S c g])).get (.run (H.next + 1)) = some (.rows false 21 [rcells m s r S c g]) := by rw [Heap.get_set, if_pos rfl]
  have na : ((H1.add (.rows false 21 [pzro])).set (.run (H.next + 1)) (.rows false 21 [rcells m s r S c g])).next = H.next + 2 := by simp [hn0]
  have sa : storeAt (H1.add (.rows false 21 [pzro])) ⟨.run (H.next + 1), 0⟩ (rcells m s r S c g) = some ((H1.add (.rows false 21 [pzro])).set (.run (H.next + 1)) (.rows false 21 [rcells m s r S c g])) := sa
  obtain ⟨H2, hH2⟩ : ∃ K, (H1.add (.rows false 21 [pzro])).set (.run (H.next + 1)) (.rows false 21 [rcells m s r S c g]) = K := ⟨_, rfl⟩
  rw [hH2] at sa ta gr na
  have lr0 := sup_r (⟨hg, hS⟩ : SupAt H1 (.run H.next) id me m s r S c g)
  have wr := r_width hS m s r c g
  obtain ⟨v3, H3, e3, t3, k3, rfl, hk3, hk3'⟩ := pbits_ok (H := H2) (p := ⟨.run (H.next + 1), 3⟩) (cap := 16) (loose := 0) (S := fun i => S.getD i 0) hS4 (fun {H'} t i hi => by
    have R : RosAt H' (.run (H.next + 1)) m s r S c g := ⟨(t.same (.run (H.next + 1)) (by show _ < _; omega) (fun h => h)).trans gr, hS⟩
    have := ros_st R hi
    rw [Nat.mul_one] at this
    rw [List.getD_eq_getElem?_getD, List.getElem?_eq_getElem (by omega)]
    exact this) (show 40 < lf by omega) n
  have n3 := t3.next
  have t4 := Turns.add Z H3 (.rows false 1 [[.slice none 0 0 0]])
  have g4 : (H3.add (.rows false 1 [[.slice none 0 0 0]])).get (.run H3.next) = some (.rows false 1 [[.slice none 0 0 0]]) := by rw [Heap.get_add, if_pos rfl]
  have n4 : (H3.add (.rows false 1 [[.slice none 0 0 0]])).next = H3.next + 1 := by simp
  obtain ⟨H4, hH4⟩ : ∃ K, H3.add (.rows false 1 [[.slice none 0 0 0]]) = K := ⟨_, rfl⟩
  rw [hH4] at t4 g4 n4
  have h17 : 17 < lf := by omega
  have w : ∀ {x : Nat}, x < 65536 → IntKind.u64.wrap (x : Int) = (x : Int) := fun hx => wrap_u64 (by omega)
  have I0 : LayI H4 H4 H3.next [] := ⟨⟨_, g4, Lst.nil _ _ _⟩, by omega, Turns.refl _ _⟩
  have atS : ∀ {K : Heap}, Turns (fun c => c = .run H3.next) H4 K → SupAt K (.run H.next) id me m s r S c g := fun t => ⟨(t.same (.run H.next) (by show _ < _; omega) (run_ne (by omega))).trans ((((ta.trans t3).trans t4).same (.run H.next) (by show _ < _; omega) (fun h => h)).trans hg), hS⟩
  have atR : ∀ {K : Heap}, Turns (fun c => c = .run H3.next) H4 K → RosAt K (.run (H.next + 1)) m s r S c g := fun t => ⟨(t.same (.run (H.next + 1)) (by show _ < _; omega) (run_ne (by omega))).trans (((t3.trans t4).same (.run (H.next + 1)) (by show _ < _; omega) (fun h => h)).trans gr), hS⟩
  have c1 := putB_le id 8
  have c2 := putB_le m 1
  have c3 := putB_le s 2
  have c4 := putB_le r 2
  have c5 := putB_le me 1
  have c8 := putB_le c 2
  obtain ⟨u1, A1, e5, rfl, I1⟩ := lay_ok I0 (by simp) hid (s := 8) (by omega) h17 (n := n)
  rw [List.nil_append] at I1
  change callS _ _ _ _ _ [_, .int .i64 8, _] _ = _ at e5
  obtain ⟨u2, A2, e6, rfl, I2⟩ := lay_ok I1 (by omega) (N := m) (by omega) (s := 1) (by omega) h17 (n := n)
  change callS _ _ _ _ _ [_, .int .i64 1, _] _ = _ at e6
  obtain ⟨u3, A3, e7, rfl, I3⟩ := lay_ok I2 (by simp only [List.length_append]; omega) (N := s) (by omega) (s := 2) (by omega) h17 (n := n)
  change callS _ _ _ _ _ [_, .int .i64 2, _] _ = _ at e7
  obtain ⟨u4, A4, e8, rfl, I4⟩ := lay_ok I3 (by simp only [List.length_append]; omega) (N := r) (by omega) (s := 2) (by omega) h17 (n := n)
  change callS _ _ _ _ _ [_, .int .i64 2, _] _ = _ at e8
  obtain ⟨u5, A5, e9, rfl, I5⟩ := lay_ok I4 (by simp only [List.length_append]; omega) (N := me) (by omega) (s := 1) (by omega) h17 (n := n)
  change callS _ _ _ _ _ [_, .int .i64 1, _] _ = _ at e9
  have hk5 : BodyAt A5 k3 (outB fun i => S.getD i 0) 4 := by
    have hk4 := hk3.turns t4
    exact ⟨(I5.t.same (.run k3) hk4.old (run_ne (by have := hk3.old; omega))).trans hk4.own, Nat.lt_of_lt_of_le hk4.old I5.t.next⟩
  have ho : outs (fun i => S.getD i 0) 4 = stl (outB fun i => S.getD i 0) 4 0 := rfl
  obtain ⟨p, n1, cc1, o1, q, n2, cc2, o2, F, A6, a1, a2, a3, I6⟩ := I5.app (Turns.refl _ _) (xs := outs (fun i => S.getD i 0) 4) (x := .slice (some ⟨.run k3, 0⟩) 4 4 0) (.inr ⟨k3, rfl, by rw [ho]; exact elems_bod hk5 4 0 (by omega), fun e => by cases e⟩) (by simp only [List.length_append, outs_len]; omega)
  obtain ⟨u7, A7, e10, rfl, I7⟩ := lay_ok I6 (by simp only [List.length_append, outs_len]; omega) (N := c) (by omega) (s := 2) (by omega) h17 (n := n)
  change callS _ _ _ _ _ [_, .int .i64 2, _] _ = _ at e10
  obtain ⟨u8, A8, e11, rfl, I8⟩ := lay_ok I7 (by simp only [List.length_append, outs_len]; omega) (N := if g then 1 else 0) (by split <;> omega) (s := 1) (by omega) h17 (n := n)
  change callS _ _ _ _ _ [_, .int .i64 1, _] _ = _ at e11
  have hgp : putB (if g then 1 else 0) 1 = [if g then 1 else 0] := by cases g <;> rfl
  rw [hgp] at I8
  have hbN : bodyN id me m s r S c g = ((((((putB id 8 ++ putB m 1) ++ putB s 2) ++ putB r 2) ++ putB me 1) ++ outs (fun i => S.getD i 0) 4) ++ putB c 2) ++ [if g then 1 else 0] := rfl
  rw [← hbN] at I8
  obtain ⟨yy, gy, hy⟩ := I8.y
  obtain ⟨py, cy, oy, ey⟩ := hy.val
  have ly : loadAt A8 ⟨.run H3.next, 0⟩ 1 = some [.slice py (rowsN (bodyN id me m s r S c g)).length cy oy] := by rw [ey] at gy; exact cellV gy
  have x1 := sup_id (atS (Turns.refl _ _))
  have x2 := ros_m (atR I1.t)
  have x3 := ros_s (atR I2.t)
  have x4 := pros_r (atR I3.t)
  have x5 := sup_self (atS I4.t)
  have x6 := ros_c (atR I6.t)
  have x7 : loadAt H3 ⟨.run (H.next + 1), 20⟩ 1 = some [.bool g] := pros_g ⟨(t3.same (.run (H.next + 1)) (by show _ < _; omega) (fun h => h)).trans gr, hS⟩
  have y1 := w b1
  have y2 := w b2
  have y3 := w b3
  have y4 := w b4
  have y5 := w b5
  have tt : Turns Z H A8 := (((t0.trans ta).trans t3).trans t4).later I8.t (fun c ho e => by subst e; exact absurd ho (Heap.not_old (by omega)))
  rw [hzr] at sa
  have fin : Turns Z H A8 ∧ ∃ K : Heap, H.next ≤ K.next ∧ Lst K A8 1 (rowsN (bodyN id me m s r S c g)) (.slice py (rowsN (bodyN id me m s r S c g)).length cy oy) := ⟨tt, H4, by omega, by rw [← ey]; exact hy⟩
  obtain ⟨ln, hln⟩ : ∃ z, z = (rowsN (bodyN id me m s r S c g)).length := ⟨_, rfl⟩
  rw [← hln] at ly fin
  refine ret_call rfl c58_eq ?_
  cases g with
  | false =>
    have e11' : callS _ _ _ _ _ [.int .u64 0, .int .i64 1, _] _ = _ := e11
    simp only [c58, sup, hw, hH1, hn0, lr0, wr, sa, e3, x7, hH4, e5, e6, e7, e8, e9, a1, a2, a3, e10, e11', ly, x1, x2, x3, x4, x5, x6, y1, y2, y3, y4, y5, mkfnF, sliceAF, oget, bounds, boundD, sy, tup, ↓reduceIte, Nat.reduceEqDiff, Nat.reduceAdd, Nat.reduceSub, Nat.reduceMul, Nat.reduceDiv, Nat.reduceMod, Nat.reduceLeDiff, Int.reduceBEq, reduceCtorEq]
    exact ⟨trivial, .inr trivial, _, rfl, fin⟩
  | true =>
    have e11' : callS _ _ _ _ _ [.int .u64 1, .int .i64 1, _] _ = _ := e11
    simp only [c58, sup, hw, hH1, hn0, lr0, wr, sa, e3, x7, hH4, e5, e6, e7, e8, e9, a1, a2, a3, e10, e11', ly, x1, x2, x3, x4, x5, x6, y1, y2, y3, y4, y5, mkfnF, sliceAF, oget, bounds, boundD, sy, tup, ↓reduceIte, Nat.reduceEqDiff, Nat.reduceAdd, Nat.reduceSub, Nat.reduceMul, Nat.reduceDiv, Nat.reduceMod, Nat.reduceLeDiff, Int.reduceBEq, reduceCtorEq]
    exact ⟨trivial, .inr trivial, _, rfl, fin⟩
theorem bodyN_ne (id me m s r : Nat) (S : List Nat) (c : Nat) (g : Bool) : bodyN id me m s r S c g ≠ [] := fun e => by
  unfold bodyN at e
  exact absurd e (by simp)
theorem pput8_ok (H : Heap) {N id : Nat} {me m s r c : Int} {g : Bool} {S : List Nat} (hN : N < 18446744073709551616) (hid : id < 18446744073709551616) (hS : S.length = 16) {lf : Nat} (hlf : 80 < lf) (n : Nat) :
    ret (callS Try.prog S0 lf (n + 6) 45 [.int .u64 (N : Int), sup id me m s r S c g] H) fun v H' => Turns Z H H' ∧
      ((evt N = true ∧ smay id me m s r S c ∧ v = .tuple [.blk (supBlk N id me m s r S c g), .int .i64 0]) ∨ (¬ (evt N = true ∧ smay id me m s r S c) ∧ v = .tuple [.blk 0, .int .i64 2])) := by
  have t0 := Turns.add Z H (.rows false 23 [scells id me m s r S c g])
  have hg : (H.add (.rows false 23 [scells id me m s r S c g])).get (.run H.next) = some (.rows false 23 [scells id me m s r S c g]) := by rw [Heap.get_add, if_pos rfl]
  have hn0 : (H.add (.rows false 23 [scells id me m s r S c g])).next = H.next + 1 := by simp
  have hw := s_width hS id me m s r c g
  generalize hH1 : H.add (.rows false 23 [scells id me m s r S c g]) = H1 at *
  have t1 := Turns.add Z H1 (.rows false 64 [[.blk 0]])
  have hg1 : (H1.add (.rows false 64 [[.blk 0]])).get (.run (H.next + 1)) = some (.rows false 64 [[.blk 0]]) := by rw [Heap.get_add, if_pos (by rw [hn0])]
  have hn1 : (H1.add (.rows false 64 [[.blk 0]])).next = H.next + 2 := by simp [hn0]
  obtain ⟨H2, hH2⟩ : ∃ K, H1.add (.rows false 64 [[.blk 0]]) = K := ⟨_, rfl⟩
  rw [hH2] at t1 hg1 hn1
  have at1 : ∀ {K : Heap}, Turns Z H1 K → SupAt K (.run H.next) id me m s r S c g := fun t => ⟨(t.same _ (by show _ < _; omega) (fun h => h)).trans hg, hS⟩
  have e1 := event_ok H2 N lf (n + 4)
  have la := sup_all (at1 t1)
  obtain ⟨v3, H3, e3, ⟨z, rfl, hz⟩, t3⟩ := smay_ok H2 (id := (id : Int)) (me := me) (m := m) (s := s) (r := r) (c := c) (g := g) hS lf (n + 1) (by omega)
  have la3 := sup_all (at1 (t1.trans t3))
  have zero : ∀ {K : Heap}, Turns Z H2 K → storeAt K ⟨.run (H.next + 1), 0⟩ [.blk 0] = some (K.set (.run (H.next + 1)) (.rows false 64 [[.blk 0]])) ∧ loadAt (K.set (.run (H.next + 1)) (.rows false 64 [[.blk 0]])) ⟨.run (H.next + 1), 0⟩ 64 = some [.blk 0] ∧ Turns Z H (K.set (.run (H.next + 1)) (.rows false 64 [[.blk 0]])) := fun {K} t => by
    have gK : K.get (.run (H.next + 1)) = some (.rows false 64 [[.blk 0]]) := (t.same _ (by show _ < _; omega) (fun h => h)).trans hg1
    refine ⟨disk.cell_store gK, ?_, ((t0.trans t1).trans t).setnew (by omega) _⟩
    rw [loadAt_eq (b := .run (H.next + 1)) (r := [.blk 0]) (by rw [Heap.get_set, if_pos rfl]) rfl]; exact Dp _ _
  unfold sup at e3 ⊢
  refine ret_call rfl c45_eq ?_
  cases hev : evt N with
  | false =>
    rw [hev] at e1
    obtain ⟨z1, z2, z3⟩ := zero (Turns.refl _ _)
    simp only [c45, hw, hH1, hH2, hn0, e1, z1, z2, sy, tup, ↓reduceIte, Nat.reduceEqDiff, Nat.reduceAdd, Nat.reduceSub, Nat.reduceMul, Nat.reduceDiv, Nat.reduceMod, Nat.reduceLeDiff, Int.reduceBEq, reduceCtorEq]
    exact ⟨trivial, .inr trivial, _, rfl, z3, .inr ⟨by simp, rfl⟩⟩
  | true =>
    rw [hev] at e1
    cases z with
    | false =>
      obtain ⟨z1, z2, z3⟩ := zero t3
      simp only [c45, hw, hH1, hH2, hn0, e1, la, e3, z1, z2, sy, tup, ↓reduceIte, Nat.reduceEqDiff, Nat.reduceAdd, Nat.reduceSub, Nat.reduceMul, Nat.reduceDiv, Nat.reduceMod, Nat.reduceLeDiff, Int.reduceBEq, reduceCtorEq]
      exact ⟨trivial, .inr trivial, _, rfl, z3, .inr ⟨by simp at hz; simp [hz], rfl⟩⟩
    | true =>
      have hm := hz.1 rfl
      obtain ⟨h1, h2, h3, hf⟩ := hm
      obtain ⟨f1, f2, f3, f4, f5, f6⟩ := hf
      obtain ⟨m1, m2, m3⟩ := may_t f1
      have hS4 : ∀ i, i < 16 → S.getD i 0 < 4 := fun i hi => by
        have := (f2 i hi _ (getD_some (by omega))).1
        omega
      have em : ((m.toNat : Nat) : Int) = m := Int.toNat_of_nonneg (by omega)
      have es : ((s.toNat : Nat) : Int) = s := Int.toNat_of_nonneg (by omega)
      have er : ((r.toNat : Nat) : Int) = r := Int.toNat_of_nonneg (by omega)
      have ec : ((c.toNat : Nat) : Int) = c := Int.toNat_of_nonneg f4
      have ee : ((me.toNat : Nat) : Int) = me := Int.toNat_of_nonneg h2
      obtain ⟨v4, H4, e4, t4, K, hK, l4⟩ := pbody_ok H3 (id := id) (me := me.toNat) (m := m.toNat) (s := s.toNat) (r := r.toNat) (c := c.toNat) (g := g) (S := S) hid (by omega) hS hS4 hlf (n + 2)
      rw [em, es, er, ec, ee] at e4
      unfold sup at e4
      have hN0 : N ≠ 0 := fun e => by subst e; revert hev; decide
      obtain ⟨v5, H5, e5, t5, rfl⟩ := pput7_ok l4 (bodyN_ne _ _ _ _ _ _ _ _) (bodyN_le _ _ _ _ _ _ _ _) (bodyN_lt _ _ _ _ _ _ _ _) hN hN0 hlf (n + 1)
      have hb : blkOf N (bodyN id me.toNat m.toNat s.toNat r.toNat S c.toNat g) = supBlk N id me m s r S c g := rfl
      rw [hb] at e5
      have t25 := (t3.trans t4).trans t5
      have g5 : H5.get (.run (H.next + 1)) = some (.rows false 64 [[.blk 0]]) := (t25.same _ (by show _ < _; omega) (fun h => h)).trans hg1
      have s5 := disk.cell_store (v := supBlk N id me m s r S c g) g5
      have l5 : loadAt (H5.set (.run (H.next + 1)) (.rows false 64 [[.blk (supBlk N id me m s r S c g)]])) ⟨.run (H.next + 1), 0⟩ 64 = some [.blk (supBlk N id me m s r S c g)] := by
        rw [loadAt_eq (b := .run (H.next + 1)) (r := [.blk (supBlk N id me m s r S c g)]) (by rw [Heap.get_set, if_pos rfl]) rfl]; exact Dp _ _
      simp only [c45, hw, hH1, hH2, hn0, e1, la, la3, e3, e4, e5, s5, l5, sy, tup, ↓reduceIte, Nat.reduceEqDiff, Nat.reduceAdd, Nat.reduceSub, Nat.reduceMul, Nat.reduceDiv, Nat.reduceMod, Nat.reduceLeDiff, Int.reduceBEq, reduceCtorEq]
      exact ⟨trivial, .inr trivial, _, rfl, ((t0.trans t1).trans t25).setnew (by omega) _, .inl ⟨trivial, ⟨h1, h2, h3, f1, f2, f3, f4, f5, f6⟩, rfl⟩⟩
end Go.Proofs.Ytabebpemfinejaa.draft
