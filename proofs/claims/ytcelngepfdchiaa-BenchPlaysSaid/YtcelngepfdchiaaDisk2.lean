/-
  A device in the machine's heap: what a cut of the power does.
-/
import Derived.Test.YtcelngepfdchiaaDisk
set_option linter.unusedVariables false
set_option linter.unusedSimpArgs false
set_option maxRecDepth 10000
namespace Go.Proofs.Ytcelngepfdchiaa.disk
open Go.Am

theorem foldV_max (k k2 : IntKind) (a b : Int) : foldV max2 (.int k a) [.int k2 b] = some (.int k (max a b)) := by
  simp only [foldV, max2, ltI_eq]
  by_cases h : a < b
  · simp [h]; omega
  · simp [h]; omega
theorem foldV_min (k k2 : IntKind) (a b : Int) : foldV min2 (.int k a) [.int k2 b] = some (.int k (min a b)) := by
  simp only [foldV, min2, ltI_eq]
  by_cases h : b < a
  · simp [h]; omega
  · simp [h]; omega

def clampN (p : Int) : Nat := (min (max p 0) 64).toNat
theorem clamp_eq (p : Int) : min (max p 0) 64 = (clampN p : Int) := by
  unfold clampN
  rw [Int.toNat_of_nonneg (by omega)]
theorem clamp_le (p : Int) : clampN p ≤ 64 := by unfold clampN; omega

theorem sliceF_loose {x hi : S} {t : T} {p : Option Ptr} {len o k : Nat} (hx : x.get t = some (.slice p len len o)) (hhi : hi.get t = some (.int .i64 (k : Int))) (hk : k ≤ len) (hc : (len = 0 ∧ p = none ∧ o = 0) ∨ (len ≠ 0 ∧ o = 65)) : sliceF 65 x none (some hi) none t = some (.slice p k len o) := by
  have hb : bounds len len none (some (.int .i64 (k : Int))) none = some (0, k, len) := by
    simp only [bounds, boundD, bound, C7, nble]
    simp [hk]
  unfold sliceF
  simp only [hx, hhi, oget, Option.map_some]
  rcases hc with ⟨h1, h2, h3⟩ | ⟨h1, h2⟩
  · subst h1; subst h2; subst h3
    simp only [nbeq, hb]
    simp
  · subst h2
    have : 1 ≤ len := by omega
    simp only [nbeq, nble, hb]
    simp [this, B9, B8]

theorem sliceAF_hi {x hi : S} {t : T} {c : Bk} {o k : Nat} (hx : x.get t = some (.ptr (some ⟨c, o⟩))) (hhi : hi.get t = some (.int .i64 (k : Int))) (hk : k ≤ 64) : sliceAF 64 1 x none (some hi) none t = some (.slice (some ⟨c, o⟩) k 64 0) := by
  have hb : bounds 64 64 none (some (.int .i64 (k : Int))) none = some (0, k, 64) := by
    simp only [bounds, boundD, bound, C7, nble]
    simp [hk]
  unfold sliceAF
  simp only [hx, hhi, oget, Option.map_some, hb, nbeq]
  simp [B9, B8]

theorem cpyF_eq {d s : S} {t : T} {H : Heap} {dv sv : V} (hd : d.get t = some dv) (hs : s.get t = some sv) (sz : Nat) : cpyF sz d s t H = copyV sz H dv sv := by
  unfold cpyF; simp only [hd, hs]

/-- the bytes of a block from j on, n of them -/
def bl (B : Nat) : (n j : Nat) → List Nat
  | 0, _ => []
  | n + 1, j => byte B j :: bl B n (j + 1)
/-- bytes laid over a block from j on -/
def puts (B : Nat) (j : Nat) : List Nat → Nat
  | [] => B
  | x :: xs => puts (setByte B j x) (j + 1) xs
def tornN (old now n : Nat) : Nat := puts old 0 (bl now n 0)

theorem cut_byte (B j : Nat) (hj : j < 64) : cut [.blk B] j 1 = some [.int .u8 (.ofNat (byte B j))] := by
  have e : min 1 (64 - j) = 1 := by omega
  have h1 : ¬ (64 ≤ j) := by omega
  simp only [cut, nbeq, nble, V.asBlk, Ca, e]
  simp [h1]
  rfl
theorem put_byte (B j x : Nat) (hj : j < 64) (hx : x < 256) : put [.blk B] j [.int .u8 (.ofNat x)] = some [.blk (setByte B j x)] := by
  have h1 : ¬ (64 ≤ j) := by omega
  have h2 : x ≤ 255 := by omega
  have hp : putBytes [.int .u8 (.ofNat x)] j B = some (setByte B j x, []) := by
    simp only [putBytes, nble]
    simp [h1, h2, putBytes]
  have ha : V.asBlk (.int .u8 (.ofNat x)) = none := rfl
  have hb : V.asBlk (.blk B) = some B := rfl
  unfold put
  simp only [hb, ha, hp, nble]
  simp [h1, put_nil]

theorem elems_bytes {H : Heap} {c : Bk} {k : IntKind} {nn : Int} {B : Nat} (hc : H.get c = some (.rows false 65 [[.int k nn, .blk B]])) : ∀ (n j : Nat), j + n ≤ 64 → elems H c 1 n (j + 1) = some ((bl B n j).map fun x => [.int .u8 (.ofNat x)])
  | 0, j, _ => rfl
  | n + 1, j, h => by
    have hl : loadAt H ⟨c, j + 1⟩ 1 = some [.int .u8 (.ofNat (byte B j))] := by
      rw [loadAt_eq hc (r := [.int k nn, .blk B]) (by rw [Nat.div_eq_of_lt (by omega)]; rfl), Nat.mod_eq_of_lt (by omega), cut_miss (n := 0) _ _ _ (by rfl)]
      exact cut_byte B j (by omega)
    simp only [elems, hl, B8]
    rw [elems_bytes hc n (j + 1) (by omega)]
    rfl

theorem store_byte {H : Heap} {b : Bk} {y : Lay} {D : Dev} (h : DevAt H b y D) {w j x : Nat} (hw : w < D.S.length) (hj : j < 64) (hx : x < 256) : storeAt H ⟨y.s, w * 64 + j⟩ [.int .u8 (.ofNat x)] = some (H.set y.s (.rows false 64 (sureRows (D.S.set w (setByte D.S[w] j x))))) := by
  have e1 : (w * 64 + j) / 64 = w := by omega
  have e2 : (w * 64 + j) % 64 = j := by omega
  rw [storeAt_eq h.sure (r := [.blk D.S[w]]) (r' := [.blk (setByte D.S[w] j x)]) (nth_of (by rw [e1]; simp [sureRows, hw])) (by rw [e2]; exact put_byte _ _ _ hj hx), e1]
  simp [sureRows, List.map_set]

theorem store_bytes : ∀ (xs : List Nat) {H : Heap} {b : Bk} {y : Lay} {D : Dev} {w j : Nat} (h : DevAt H b y D) (hw : w < D.S.length), j + xs.length ≤ 64 → (∀ x ∈ xs, x < 256) →
    ∃ H', storeElems y.s 1 (xs.map fun x => [.int .u8 (.ofNat x)]) (w * 64 + j) H = some H' ∧ DevAt H' b y { D with S := D.S.set w (puts D.S[w] j xs) } ∧ Turns (fun c => c = y.s) H H'
  | [], H, b, y, D, w, j, h, hw, _, _ => ⟨H, rfl, by simpa [puts] using h, Turns.refl _ _⟩
  | x :: xs, H, b, y, D, w, j, h, hw, hl, hx => by
    have hl' : j + 1 + xs.length ≤ 64 := by simp at hl; omega
    have st := store_byte h hw (j := j) (by omega) (hx x (List.mem_cons_self ..))
    have hd := h.setS (S' := D.S.set w (setByte D.S[w] j x)) (by simp)
    obtain ⟨H', e, hD, hT⟩ := store_bytes xs (j := j + 1) hd (w := w) (by simpa using hw) hl' (fun z hz => hx z (List.mem_cons_of_mem _ hz))
    refine ⟨H', ?_, ?_, (Turns.set (X := fun c => c = y.s) rfl _ _).trans hT⟩
    · simp only [List.map_cons, storeElems, st, B8]
      rw [show w * 64 + j + 1 = w * 64 + (j + 1) by omega]
      exact e
    · simpa [puts] using hD

theorem bl_length (B : Nat) : ∀ n j, (bl B n j).length = n
  | 0, _ => rfl
  | n + 1, j => by simp [bl, bl_length B n (j + 1)]
theorem bl_lt (B : Nat) : ∀ n j, ∀ x ∈ bl B n j, x < 256
  | 0, _, x, h => by simp [bl] at h
  | n + 1, j, x, h => by
    simp only [bl, List.mem_cons] at h
    rcases h with rfl | h
    · exact byte_lt _ _
    · exact bl_lt B n (j + 1) x h

theorem copy_block {H : Heap} {b : Bk} {y : Lay} {D : Dev} (h : DevAt H b y D) {c : Bk} {w B n : Nat} {k : IntKind} {nn : Int} (hc : H.get c = some (.rows false 65 [[.int k nn, .blk B]])) (hw : w < D.S.length) (hn : n ≤ 64) :
    ∃ H', copyV 1 H (.slice (some ⟨y.s, w * 64⟩) n 64 0) (.slice (some ⟨c, 1⟩) n 64 0) = some (.int .i64 (n : Int), H') ∧ DevAt H' b y { D with S := D.S.set w (tornN D.S[w] B n) } ∧ Turns (fun x => x = y.s) H H' := by
  by_cases h0 : n = 0
  · subst h0
    refine ⟨H, by simp [copyV], by simpa [tornN, bl, puts] using h, Turns.refl _ _⟩
  · have he := elems_bytes hc n 0 (by omega)
    obtain ⟨H', e, hD, hT⟩ := store_bytes (bl B n 0) (j := 0) h hw (by rw [bl_length]; omega) (bl_lt B n 0)
    refine ⟨H', ?_, hD, hT⟩
    simp only [copyV, Nat.min_self, nbeq, firstE]
    simp only [h0, decide_false]
    rw [show (1 : Nat) = 0 + 1 from rfl, he]
    rw [Nat.add_zero] at e
    simp only [e, Option.map_some]
    rfl

theorem getD_lt {l : List Nat} {n : Nat} (h : n < l.length) : l.getD n 0 = l[n] := by simp [List.getD, h]

structure PicksAt (H : Heap) (pp : Option Ptr) (P : List Int) (X : Bk → Prop) : Prop where
  has : P ≠ [] → ∃ x ox ro rows, pp = some ⟨x, ox⟩ ∧ H.Old x ∧ ¬ X x ∧ H.get x = some (.rows ro 1 rows) ∧ ∀ i, (hi : i < P.length) → rows[ox + i]? = some [.int .i64 P[i]]

theorem PicksAt.load {H : Heap} {pp : Option Ptr} {P : List Int} {X : Bk → Prop} (h : PicksAt H pp P X) {i : Nat} (hi : i < P.length) : ∃ x ox, pp = some ⟨x, ox⟩ ∧ loadAt H ⟨x, ox + i⟩ 1 = some [.int .i64 P[i]] := by
  obtain ⟨x, ox, ro, rows, hp, _, _, hg, hr⟩ := h.has (fun e => by rw [e] at hi; simp at hi)
  refine ⟨x, ox, hp, ?_⟩
  rw [loadAt_eq hg (r := [.int .i64 P[i]]) (nth_of (by rw [Nat.div_one]; exact hr i hi)), Nat.mod_one]
  exact cut_hit _ _ rfl
theorem PicksAt.turns {H H' : Heap} {pp : Option Ptr} {P : List Int} {X : Bk → Prop} (h : PicksAt H pp P X) (k : Turns X H H') : PicksAt H' pp P X := ⟨fun e => by
  obtain ⟨x, ox, ro, rows, hp, ho, hx, hg, hr⟩ := h.has e
  exact ⟨x, ox, ro, rows, hp, ho.mono k.next, hx, (k.same x ho hx).trans hg, hr⟩⟩

theorem PicksAt.at' {H H' : Heap} {pp : Option Ptr} {P : List Int} {X : Bk → Prop} (h : PicksAt H pp P (fun _ => False)) (k : Turns (fun _ => False) H H') (hX : ∀ c, X c → ¬ H.Old c) : PicksAt H' pp P X := ⟨fun e => by
  obtain ⟨x, ox, ro, rows, hp, ho, hx, hg, hr⟩ := h.has e
  exact ⟨x, ox, ro, rows, hp, ho.mono k.next, fun hx => hX x hx ho, (k.same x ho id).trans hg, hr⟩⟩

def crashS (S : List Nat) (l : List ((Nat × Nat) × Int)) : List Nat := l.foldl (fun S w => S.set w.1.1 (tornN (S.getD w.1.1 0) w.1.2 (clampN w.2))) S
theorem crashS_length : ∀ (l : List ((Nat × Nat) × Int)) (S : List Nat), (crashS S l).length = S.length
  | [], S => rfl
  | w :: l, S => (crashS_length l _).trans (by simp)
theorem crashS_take {l : List ((Nat × Nat) × Int)} {i : Nat} (hi : i < l.length) (S : List Nat) : crashS S (l.take (i + 1)) = (crashS S (l.take i)).set l[i].1.1 (tornN ((crashS S (l.take i)).getD l[i].1.1 0) l[i].1.2 (clampN l[i].2)) := by
  unfold crashS
  rw [List.take_succ_eq_append_getElem hi, List.foldl_append]; rfl

theorem crash_ok {H : Heap} {b : Bk} {y : Lay} {D : Dev} (h : DevAt H b y D) (hS : D.S ≠ []) (hok : ∀ w ∈ D.L, w.1 < D.S.length) (hmax : D.L.length < 1000000) {pp : Option Ptr} {P : List Int} {pc po : Nat} (hP : PicksAt H pp P (Foot b y D)) {lf : Nat} (hlf : D.L.length + 1 < lf) (m : Nat) :
    ret (callS Try.prog S0 lf (m + 2) 19 [.ptr (some ⟨b, 0⟩), .slice pp P.length pc po] H) fun v H' => v = .tuple [.int .i64 ((min D.L.length P.length : Nat) : Int), .int .i64 0] ∧ Next H b y D H' { y with p := none, o := 0 } { D with S := crashS D.S (D.L.zip P), L := [] } := by
  have l1 := load1 h
  refine ret_call rfl c19_eq ?_
  obtain ⟨v, H1, e, rfl, e1⟩ := none_ret h hS lf m
  subst e1
  have hzl : (D.L.zip P).length = min D.L.length P.length := List.length_zip
  have hloop : ∀ t : T, t.getP (Tr.path 0) = some (.ptr (some ⟨b, 0⟩)) → t.getP (Tr.path 1) = some (.slice pp P.length pc po) → t.getP (Tr.path 6) = some (.int .i64 ((min D.L.length P.length : Nat) : Int)) → t.getP (Tr.path 25) = some (.slice y.p (min D.L.length P.length) D.L.length y.o) → t.getP (Tr.path 26) = some (.int .i64 ((min D.L.length P.length : Nat) : Int)) → t.getP (Tr.path 27) = some (.int .i64 0) →
      wp (loopF (runC (callS Try.prog S0 lf (m + 1)) lf c19_l0) lf ⟨t, H1, []⟩) fun x s =>
        x = .ex 0 ∧ s.d = [] ∧ s.t.getP (Tr.path 0) = some (.ptr (some ⟨b, 0⟩)) ∧ s.t.getP (Tr.path 6) = some (.int .i64 ((min D.L.length P.length : Nat) : Int)) ∧ DevAt s.H b y { D with S := crashS D.S (D.L.zip P) } ∧ Turns (Foot b y D) H1 s.H := by
    intro t q0 q1 q6 q25 q26 q27
    refine wp_loopF (fun k s => ∃ i, i + k = min D.L.length P.length ∧ s.d = [] ∧ s.t.getP (Tr.path 0) = some (.ptr (some ⟨b, 0⟩)) ∧ s.t.getP (Tr.path 1) = some (.slice pp P.length pc po) ∧ s.t.getP (Tr.path 6) = some (.int .i64 ((min D.L.length P.length : Nat) : Int)) ∧ s.t.getP (Tr.path 25) = some (.slice y.p (min D.L.length P.length) D.L.length y.o) ∧ s.t.getP (Tr.path 26) = some (.int .i64 ((min D.L.length P.length : Nat) : Int)) ∧ s.t.getP (Tr.path 27) = some (.int .i64 (i : Int)) ∧ DevAt s.H b y { D with S := crashS D.S ((D.L.zip P).take i) } ∧ Turns (Foot b y D) H1 s.H) ?_ lf (min D.L.length P.length) _ ⟨0, by simp, rfl, q0, q1, q6, q25, q26, q27, h, Turns.refl _ _⟩ (by omega)
    rintro k ⟨t, HH, d⟩ ⟨i, hi, rfl, q0, q1, q6, q25, q26, q27, hD, hT⟩
    dsimp only at q0 q1 q6 q25 q26 q27 hD hT
    cases k with
    | zero =>
      have hi : i = min D.L.length P.length := by omega
      rw [hi, ← hzl, List.take_length] at hD
      subst hi
      generalize min D.L.length P.length = mm at q6 q25 q26 q27 ⊢
      have hg : ¬ (mm < mm) := Nat.lt_irrefl _
      simp only [c19_l0, q0, q1, q6, q25, q26, q27, hg, Aa, Ab, Ad, Ae, Af, Ag, Ah, Ai, Aj, Ak, Al, Ao, Ap, Aq, Ar, Au, sO_p, sO_r, sO_m, sO_a, sO_c, Av, Aw, Ax, Ay, Az, sE_p, sE_r, sE_m, sE_a, sE_c, A0, A2, A3, A4, A5, A6, A7, A8, A9, Ba, Bb, Bc, Bd, Be, Bf, Bg, Bh, Bi, Bj, Bl, Bm, Bo, Bp, Bq, Br, Bs, Bt, Bu, Bv, Tr.getP_e, Bw, Bx, ↓reduceIte, Nat.reduceEqDiff, Nat.reduceAdd, Nat.reduceSub, Nat.reduceMul, Nat.reduceDiv, Nat.reduceMod, Nat.zero_add, Nat.add_zero, beq_self_eq_true, Nat.zero_ne_one, Nat.one_ne_zero, Nat.reduceLeDiff, Int.reduceBEq, constF, unF, unary,  pickF, nilcF, faddrF, fldF, iaddrSF, arF, Bz, B3, B4, B5, B6, B7, convF, extF, lenF, eqcF, eqnF, eqN, eqPtr, isNone, loadF, storeF, allocF, callF, gets, Option.map_some, Option.bind_some, B8, B9, Ca, Cb, Cc, nbeq, nble, Cd, Ce, Cf, Cg, Ch, Ci, Cj, Ck, Cl, Cm, Cn, Co, Cp, Cq, Cr, Cs, Ct, Cu, Cv, Cw, Cx, V.w, width, unc, cmpCells, Cy, Cz, C6, C7, C8, Da, undef, List.append_nil, List.nil_append, List.cons_append, Db, Dc, resultsV, result, tup, Dd, Bool.and_true, Bool.true_and, Bool.and_self, decide_true, decide_false, Bool.not_true, Bool.not_false, Bool.true_beq, Bool.false_beq, beq_iff_eq, reduceCtorEq, Nat.succ_eq_add_one, ptr0, Int.ofNat_eq_natCast, Int.ofNat_le, Int.ofNat_lt, Int.natCast_add, De, Df, Dg, Dh, Di, List.map_cons, List.map_nil, Dj, Heap.next_add, Heap.next_set, boxF, buildF, fill, bsliceF, fillRows, List.replicate_one, Dk, Dl, Dm, Dn, Dp, Dq, Dr, Ds, Dt, Du, Dw, Dx, Dy, Dz, D2, D3, D4, D5, D6, D7, D8, D9, Ea, Eb, Ec, appF, List.length_cons, List.length_nil]
      exact ⟨trivial, trivial, trivial, trivial, hD, hT⟩
    | succ k =>
      have hi' : i < min D.L.length P.length := by omega
      have hiz : i < (D.L.zip P).length := by omega
      have hi1 : i + 1 ≤ min D.L.length P.length := hi'
      have hiL : i < D.L.length := by omega
      have hiP : i < P.length := by omega
      have hiP1 : i + 1 ≤ P.length := hiP
      have hp := (h.loose (fun e => by rw [e] at hiL; simp at hiL)).1
      have lw := loadLw hD hiL
      have hA : Turns Z HH ((HH.add (.rows false 65 [[.int .i64 0, .blk 0]])).set (.run HH.next) (.rows false 65 [[.int .i64 (D.L[i].1 : Int), .blk D.L[i].2]])) := (Turns.add Z HH _).setnew (Nat.le_refl _) _
      have hTA := hT.trans (hA.wide (Y := Foot b y D) (fun c hc => hc.elim))
      have hK := hD.turns hA id id (fun _ => id)
      obtain ⟨x, ox, hpx, lp⟩ := (hP.turns hTA).load hiP
      have hn : D.L[i].1 < (crashS D.S ((D.L.zip P).take i)).length := by rw [crashS_length]; exact hok _ (List.getElem_mem _)
      have hn1 : D.L[i].1 + 1 ≤ (crashS D.S ((D.L.zip P).take i)).length := hn
      have l0 := load0 hK
      have hcl := clamp_eq P[i]
      have hcle := clamp_le P[i]
      obtain ⟨H3, ec, hD3, hT3⟩ := copy_block hK (c := .run HH.next) (by rw [Heap.get_set, if_pos rfl]) hn hcle
      have hw : IntKind.i64.wrap ((i : Int) + 1) = ((i + 1 : Nat) : Int) := by rw [wrap_i64 (by omega)]; rfl
      rw [hp] at q25
      rw [hpx] at q1
      generalize hmm : min D.L.length P.length = mm at q6 q25 q26 q27 hi hi' hi1 ⊢
      simp only [c19_l0, q0, q1, q6, q25, q26, q27, hi', hi1, hiP1, hn1, lw, l0, lp, foldF, foldV_max, foldV_min, hcl, Nat.mul_one, Aa, Ab, Ad, Ae, Af, Ag, Ah, Ai, Aj, Ak, Al, Ao, Ap, Aq, Ar, Au, sO_p, sO_r, sO_m, sO_a, sO_c, Av, Aw, Ax, Ay, Az, sE_p, sE_r, sE_m, sE_a, sE_c, A0, A2, A3, A4, A5, A6, A7, A8, A9, Ba, Bb, Bc, Bd, Be, Bf, Bg, Bh, Bi, Bj, Bl, Bm, Bo, Bp, Bq, Br, Bs, Bt, Bu, Bv, Tr.getP_e, Bw, Bx, ↓reduceIte, Nat.reduceEqDiff, Nat.reduceAdd, Nat.reduceSub, Nat.reduceMul, Nat.reduceDiv, Nat.reduceMod, Nat.zero_add, Nat.add_zero, beq_self_eq_true, Nat.zero_ne_one, Nat.one_ne_zero, Nat.reduceLeDiff, Int.reduceBEq, constF, unF, unary,  pickF, nilcF, faddrF, fldF, iaddrSF, arF, Bz, B3, B4, B5, B6, B7, convF, extF, lenF, eqcF, eqnF, eqN, eqPtr, isNone, loadF, storeF, allocF, callF, gets, Option.map_some, Option.bind_some, B8, B9, Ca, Cb, Cc, nbeq, nble, Cd, Ce, Cf, Cg, Ch, Ci, Cj, Ck, Cl, Cm, Cn, Co, Cp, Cq, Cr, Cs, Ct, Cu, Cv, Cw, Cx, V.w, width, unc, cmpCells, Cy, Cz, C6, C7, C8, Da, undef, List.append_nil, List.nil_append, List.cons_append, Db, Dc, resultsV, result, tup, Dd, Bool.and_true, Bool.true_and, Bool.and_self, decide_true, decide_false, Bool.not_true, Bool.not_false, Bool.true_beq, Bool.false_beq, beq_iff_eq, reduceCtorEq, Nat.succ_eq_add_one, ptr0, Int.ofNat_eq_natCast, Int.ofNat_le, Int.ofNat_lt, Int.natCast_add, De, Df, Dg, Dh, Di, List.map_cons, List.map_nil, Dj, Heap.next_add, Heap.next_set, boxF, buildF, fill, bsliceF, fillRows, List.replicate_one, Dk, Dl, Dm, Dn, Dp, Dq, Dr, Ds, Dt, Du, Dw, Dx, Dy, Dz, D2, D3, D4, D5, D6, D7, D8, D9, Ea, Eb, Ec, appF, List.length_cons, List.length_nil]
      rw [sliceAF_hi (c := y.s) (o := D.L[i].1 * 64) (k := clampN P[i]) (by simp only [Aa, Ab, Ad, Ae, Af, Ag, Ah, Ai, Aj, Ak, Al, Ao, Ap, Aq, Ar, Au, sO_p, sO_r, sO_m, sO_a, sO_c, Av, Aw, Ax, Ay, Az, sE_p, sE_r, sE_m, sE_a, sE_c, A0, A2, A3, A4, A5, A6, A7, A8, A9, Ba, Bb, Bc, Bd, Be, Bf, Bg, Bh, Bi, Bj, Bl, Bm, Bo, Bp, Bq, Br, Bs, Bt, Bu, Bv, Tr.getP_e, Bw, Bx, ↓reduceIte, Nat.reduceEqDiff, Nat.reduceAdd, Nat.reduceSub, Nat.reduceMul, Nat.reduceDiv, Nat.reduceMod, Nat.zero_add, Nat.add_zero, beq_self_eq_true, Nat.zero_ne_one, Nat.one_ne_zero, Nat.reduceLeDiff, Int.reduceBEq, constF, unF, unary,  pickF, nilcF, faddrF, fldF, iaddrSF, arF, Bz, B3, B4, B5, B6, B7, convF, extF, lenF, eqcF, eqnF, eqN, eqPtr, isNone, loadF, storeF, allocF, callF, gets, Option.map_some, Option.bind_some, B8, B9, Ca, Cb, Cc, nbeq, nble, Cd, Ce, Cf, Cg, Ch, Ci, Cj, Ck, Cl, Cm, Cn, Co, Cp, Cq, Cr, Cs, Ct, Cu, Cv, Cw, Cx, V.w, width, unc, cmpCells, Cy, Cz, C6, C7, C8, Da, undef, List.append_nil, List.nil_append, List.cons_append, Db, Dc, resultsV, result, tup, Dd, Bool.and_true, Bool.true_and, Bool.and_self, decide_true, decide_false, Bool.not_true, Bool.not_false, Bool.true_beq, Bool.false_beq, beq_iff_eq, reduceCtorEq, Nat.succ_eq_add_one, ptr0, Int.ofNat_eq_natCast, Int.ofNat_le, Int.ofNat_lt, Int.natCast_add, De, Df, Dg, Dh, Di, List.map_cons, List.map_nil, Dj, Heap.next_add, Heap.next_set, boxF, buildF, fill, bsliceF, fillRows, List.replicate_one, Dk, Dl, Dm, Dn, Dp, Dq, Dr, Ds, Dt, Du, Dw, Dx, Dy, Dz, D2, D3, D4, D5, D6, D7, D8, D9, Ea, Eb, Ec, appF, List.length_cons, List.length_nil]) (by simp only [Aa, Ab, Ad, Ae, Af, Ag, Ah, Ai, Aj, Ak, Al, Ao, Ap, Aq, Ar, Au, sO_p, sO_r, sO_m, sO_a, sO_c, Av, Aw, Ax, Ay, Az, sE_p, sE_r, sE_m, sE_a, sE_c, A0, A2, A3, A4, A5, A6, A7, A8, A9, Ba, Bb, Bc, Bd, Be, Bf, Bg, Bh, Bi, Bj, Bl, Bm, Bo, Bp, Bq, Br, Bs, Bt, Bu, Bv, Tr.getP_e, Bw, Bx, ↓reduceIte, Nat.reduceEqDiff, Nat.reduceAdd, Nat.reduceSub, Nat.reduceMul, Nat.reduceDiv, Nat.reduceMod, Nat.zero_add, Nat.add_zero, beq_self_eq_true, Nat.zero_ne_one, Nat.one_ne_zero, Nat.reduceLeDiff, Int.reduceBEq, constF, unF, unary,  pickF, nilcF, faddrF, fldF, iaddrSF, arF, Bz, B3, B4, B5, B6, B7, convF, extF, lenF, eqcF, eqnF, eqN, eqPtr, isNone, loadF, storeF, allocF, callF, gets, Option.map_some, Option.bind_some, B8, B9, Ca, Cb, Cc, nbeq, nble, Cd, Ce, Cf, Cg, Ch, Ci, Cj, Ck, Cl, Cm, Cn, Co, Cp, Cq, Cr, Cs, Ct, Cu, Cv, Cw, Cx, V.w, width, unc, cmpCells, Cy, Cz, C6, C7, C8, Da, undef, List.append_nil, List.nil_append, List.cons_append, Db, Dc, resultsV, result, tup, Dd, Bool.and_true, Bool.true_and, Bool.and_self, decide_true, decide_false, Bool.not_true, Bool.not_false, Bool.true_beq, Bool.false_beq, beq_iff_eq, reduceCtorEq, Nat.succ_eq_add_one, ptr0, Int.ofNat_eq_natCast, Int.ofNat_le, Int.ofNat_lt, Int.natCast_add, De, Df, Dg, Dh, Di, List.map_cons, List.map_nil, Dj, Heap.next_add, Heap.next_set, boxF, buildF, fill, bsliceF, fillRows, List.replicate_one, Dk, Dl, Dm, Dn, Dp, Dq, Dr, Ds, Dt, Du, Dw, Dx, Dy, Dz, D2, D3, D4, D5, D6, D7, D8, D9, Ea, Eb, Ec, appF, List.length_cons, List.length_nil]) hcle]
      simp only [Aa, Ab, Ad, Ae, Af, Ag, Ah, Ai, Aj, Ak, Al, Ao, Ap, Aq, Ar, Au, sO_p, sO_r, sO_m, sO_a, sO_c, Av, Aw, Ax, Ay, Az, sE_p, sE_r, sE_m, sE_a, sE_c, A0, A2, A3, A4, A5, A6, A7, A8, A9, Ba, Bb, Bc, Bd, Be, Bf, Bg, Bh, Bi, Bj, Bl, Bm, Bo, Bp, Bq, Br, Bs, Bt, Bu, Bv, Tr.getP_e, Bw, Bx, ↓reduceIte, Nat.reduceEqDiff, Nat.reduceAdd, Nat.reduceSub, Nat.reduceMul, Nat.reduceDiv, Nat.reduceMod, Nat.zero_add, Nat.add_zero, beq_self_eq_true, Nat.zero_ne_one, Nat.one_ne_zero, Nat.reduceLeDiff, Int.reduceBEq, constF, unF, unary,  pickF, nilcF, faddrF, fldF, iaddrSF, arF, Bz, B3, B4, B5, B6, B7, convF, extF, lenF, eqcF, eqnF, eqN, eqPtr, isNone, loadF, storeF, allocF, callF, gets, Option.map_some, Option.bind_some, B8, B9, Ca, Cb, Cc, nbeq, nble, Cd, Ce, Cf, Cg, Ch, Ci, Cj, Ck, Cl, Cm, Cn, Co, Cp, Cq, Cr, Cs, Ct, Cu, Cv, Cw, Cx, V.w, width, unc, cmpCells, Cy, Cz, C6, C7, C8, Da, undef, List.append_nil, List.nil_append, List.cons_append, Db, Dc, resultsV, result, tup, Dd, Bool.and_true, Bool.true_and, Bool.and_self, decide_true, decide_false, Bool.not_true, Bool.not_false, Bool.true_beq, Bool.false_beq, beq_iff_eq, reduceCtorEq, Nat.succ_eq_add_one, ptr0, Int.ofNat_eq_natCast, Int.ofNat_le, Int.ofNat_lt, Int.natCast_add, De, Df, Dg, Dh, Di, List.map_cons, List.map_nil, Dj, Heap.next_add, Heap.next_set, boxF, buildF, fill, bsliceF, fillRows, List.replicate_one, Dk, Dl, Dm, Dn, Dp, Dq, Dr, Ds, Dt, Du, Dw, Dx, Dy, Dz, D2, D3, D4, D5, D6, D7, D8, D9, Ea, Eb, Ec, appF, List.length_cons, List.length_nil]
      rw [sliceAF_hi (c := .run HH.next) (o := 1) (k := clampN P[i]) (by simp only [Aa, Ab, Ad, Ae, Af, Ag, Ah, Ai, Aj, Ak, Al, Ao, Ap, Aq, Ar, Au, sO_p, sO_r, sO_m, sO_a, sO_c, Av, Aw, Ax, Ay, Az, sE_p, sE_r, sE_m, sE_a, sE_c, A0, A2, A3, A4, A5, A6, A7, A8, A9, Ba, Bb, Bc, Bd, Be, Bf, Bg, Bh, Bi, Bj, Bl, Bm, Bo, Bp, Bq, Br, Bs, Bt, Bu, Bv, Tr.getP_e, Bw, Bx, ↓reduceIte, Nat.reduceEqDiff, Nat.reduceAdd, Nat.reduceSub, Nat.reduceMul, Nat.reduceDiv, Nat.reduceMod, Nat.zero_add, Nat.add_zero, beq_self_eq_true, Nat.zero_ne_one, Nat.one_ne_zero, Nat.reduceLeDiff, Int.reduceBEq, constF, unF, unary,  pickF, nilcF, faddrF, fldF, iaddrSF, arF, Bz, B3, B4, B5, B6, B7, convF, extF, lenF, eqcF, eqnF, eqN, eqPtr, isNone, loadF, storeF, allocF, callF, gets, Option.map_some, Option.bind_some, B8, B9, Ca, Cb, Cc, nbeq, nble, Cd, Ce, Cf, Cg, Ch, Ci, Cj, Ck, Cl, Cm, Cn, Co, Cp, Cq, Cr, Cs, Ct, Cu, Cv, Cw, Cx, V.w, width, unc, cmpCells, Cy, Cz, C6, C7, C8, Da, undef, List.append_nil, List.nil_append, List.cons_append, Db, Dc, resultsV, result, tup, Dd, Bool.and_true, Bool.true_and, Bool.and_self, decide_true, decide_false, Bool.not_true, Bool.not_false, Bool.true_beq, Bool.false_beq, beq_iff_eq, reduceCtorEq, Nat.succ_eq_add_one, ptr0, Int.ofNat_eq_natCast, Int.ofNat_le, Int.ofNat_lt, Int.natCast_add, De, Df, Dg, Dh, Di, List.map_cons, List.map_nil, Dj, Heap.next_add, Heap.next_set, boxF, buildF, fill, bsliceF, fillRows, List.replicate_one, Dk, Dl, Dm, Dn, Dp, Dq, Dr, Ds, Dt, Du, Dw, Dx, Dy, Dz, D2, D3, D4, D5, D6, D7, D8, D9, Ea, Eb, Ec, appF, List.length_cons, List.length_nil]) (by simp only [Aa, Ab, Ad, Ae, Af, Ag, Ah, Ai, Aj, Ak, Al, Ao, Ap, Aq, Ar, Au, sO_p, sO_r, sO_m, sO_a, sO_c, Av, Aw, Ax, Ay, Az, sE_p, sE_r, sE_m, sE_a, sE_c, A0, A2, A3, A4, A5, A6, A7, A8, A9, Ba, Bb, Bc, Bd, Be, Bf, Bg, Bh, Bi, Bj, Bl, Bm, Bo, Bp, Bq, Br, Bs, Bt, Bu, Bv, Tr.getP_e, Bw, Bx, ↓reduceIte, Nat.reduceEqDiff, Nat.reduceAdd, Nat.reduceSub, Nat.reduceMul, Nat.reduceDiv, Nat.reduceMod, Nat.zero_add, Nat.add_zero, beq_self_eq_true, Nat.zero_ne_one, Nat.one_ne_zero, Nat.reduceLeDiff, Int.reduceBEq, constF, unF, unary,  pickF, nilcF, faddrF, fldF, iaddrSF, arF, Bz, B3, B4, B5, B6, B7, convF, extF, lenF, eqcF, eqnF, eqN, eqPtr, isNone, loadF, storeF, allocF, callF, gets, Option.map_some, Option.bind_some, B8, B9, Ca, Cb, Cc, nbeq, nble, Cd, Ce, Cf, Cg, Ch, Ci, Cj, Ck, Cl, Cm, Cn, Co, Cp, Cq, Cr, Cs, Ct, Cu, Cv, Cw, Cx, V.w, width, unc, cmpCells, Cy, Cz, C6, C7, C8, Da, undef, List.append_nil, List.nil_append, List.cons_append, Db, Dc, resultsV, result, tup, Dd, Bool.and_true, Bool.true_and, Bool.and_self, decide_true, decide_false, Bool.not_true, Bool.not_false, Bool.true_beq, Bool.false_beq, beq_iff_eq, reduceCtorEq, Nat.succ_eq_add_one, ptr0, Int.ofNat_eq_natCast, Int.ofNat_le, Int.ofNat_lt, Int.natCast_add, De, Df, Dg, Dh, Di, List.map_cons, List.map_nil, Dj, Heap.next_add, Heap.next_set, boxF, buildF, fill, bsliceF, fillRows, List.replicate_one, Dk, Dl, Dm, Dn, Dp, Dq, Dr, Ds, Dt, Du, Dw, Dx, Dy, Dz, D2, D3, D4, D5, D6, D7, D8, D9, Ea, Eb, Ec, appF, List.length_cons, List.length_nil]) hcle]
      simp only [Aa, Ab, Ad, Ae, Af, Ag, Ah, Ai, Aj, Ak, Al, Ao, Ap, Aq, Ar, Au, sO_p, sO_r, sO_m, sO_a, sO_c, Av, Aw, Ax, Ay, Az, sE_p, sE_r, sE_m, sE_a, sE_c, A0, A2, A3, A4, A5, A6, A7, A8, A9, Ba, Bb, Bc, Bd, Be, Bf, Bg, Bh, Bi, Bj, Bl, Bm, Bo, Bp, Bq, Br, Bs, Bt, Bu, Bv, Tr.getP_e, Bw, Bx, ↓reduceIte, Nat.reduceEqDiff, Nat.reduceAdd, Nat.reduceSub, Nat.reduceMul, Nat.reduceDiv, Nat.reduceMod, Nat.zero_add, Nat.add_zero, beq_self_eq_true, Nat.zero_ne_one, Nat.one_ne_zero, Nat.reduceLeDiff, Int.reduceBEq, constF, unF, unary,  pickF, nilcF, faddrF, fldF, iaddrSF, arF, Bz, B3, B4, B5, B6, B7, convF, extF, lenF, eqcF, eqnF, eqN, eqPtr, isNone, loadF, storeF, allocF, callF, gets, Option.map_some, Option.bind_some, B8, B9, Ca, Cb, Cc, nbeq, nble, Cd, Ce, Cf, Cg, Ch, Ci, Cj, Ck, Cl, Cm, Cn, Co, Cp, Cq, Cr, Cs, Ct, Cu, Cv, Cw, Cx, V.w, width, unc, cmpCells, Cy, Cz, C6, C7, C8, Da, undef, List.append_nil, List.nil_append, List.cons_append, Db, Dc, resultsV, result, tup, Dd, Bool.and_true, Bool.true_and, Bool.and_self, decide_true, decide_false, Bool.not_true, Bool.not_false, Bool.true_beq, Bool.false_beq, beq_iff_eq, reduceCtorEq, Nat.succ_eq_add_one, ptr0, Int.ofNat_eq_natCast, Int.ofNat_le, Int.ofNat_lt, Int.natCast_add, De, Df, Dg, Dh, Di, List.map_cons, List.map_nil, Dj, Heap.next_add, Heap.next_set, boxF, buildF, fill, bsliceF, fillRows, List.replicate_one, Dk, Dl, Dm, Dn, Dp, Dq, Dr, Ds, Dt, Du, Dw, Dx, Dy, Dz, D2, D3, D4, D5, D6, D7, D8, D9, Ea, Eb, Ec, appF, List.length_cons, List.length_nil]
      rw [cpyF_eq (dv := .slice (some ⟨y.s, D.L[i].1 * 64⟩) (clampN P[i]) 64 0) (sv := .slice (some ⟨.run HH.next, 1⟩) (clampN P[i]) 64 0) (by simp only [Aa, Ab, Ad, Ae, Af, Ag, Ah, Ai, Aj, Ak, Al, Ao, Ap, Aq, Ar, Au, sO_p, sO_r, sO_m, sO_a, sO_c, Av, Aw, Ax, Ay, Az, sE_p, sE_r, sE_m, sE_a, sE_c, A0, A2, A3, A4, A5, A6, A7, A8, A9, Ba, Bb, Bc, Bd, Be, Bf, Bg, Bh, Bi, Bj, Bl, Bm, Bo, Bp, Bq, Br, Bs, Bt, Bu, Bv, Tr.getP_e, Bw, Bx, ↓reduceIte, Nat.reduceEqDiff, Nat.reduceAdd, Nat.reduceSub, Nat.reduceMul, Nat.reduceDiv, Nat.reduceMod, Nat.zero_add, Nat.add_zero, beq_self_eq_true, Nat.zero_ne_one, Nat.one_ne_zero, Nat.reduceLeDiff, Int.reduceBEq, constF, unF, unary,  pickF, nilcF, faddrF, fldF, iaddrSF, arF, Bz, B3, B4, B5, B6, B7, convF, extF, lenF, eqcF, eqnF, eqN, eqPtr, isNone, loadF, storeF, allocF, callF, gets, Option.map_some, Option.bind_some, B8, B9, Ca, Cb, Cc, nbeq, nble, Cd, Ce, Cf, Cg, Ch, Ci, Cj, Ck, Cl, Cm, Cn, Co, Cp, Cq, Cr, Cs, Ct, Cu, Cv, Cw, Cx, V.w, width, unc, cmpCells, Cy, Cz, C6, C7, C8, Da, undef, List.append_nil, List.nil_append, List.cons_append, Db, Dc, resultsV, result, tup, Dd, Bool.and_true, Bool.true_and, Bool.and_self, decide_true, decide_false, Bool.not_true, Bool.not_false, Bool.true_beq, Bool.false_beq, beq_iff_eq, reduceCtorEq, Nat.succ_eq_add_one, ptr0, Int.ofNat_eq_natCast, Int.ofNat_le, Int.ofNat_lt, Int.natCast_add, De, Df, Dg, Dh, Di, List.map_cons, List.map_nil, Dj, Heap.next_add, Heap.next_set, boxF, buildF, fill, bsliceF, fillRows, List.replicate_one, Dk, Dl, Dm, Dn, Dp, Dq, Dr, Ds, Dt, Du, Dw, Dx, Dy, Dz, D2, D3, D4, D5, D6, D7, D8, D9, Ea, Eb, Ec, appF, List.length_cons, List.length_nil]) (by simp only [Aa, Ab, Ad, Ae, Af, Ag, Ah, Ai, Aj, Ak, Al, Ao, Ap, Aq, Ar, Au, sO_p, sO_r, sO_m, sO_a, sO_c, Av, Aw, Ax, Ay, Az, sE_p, sE_r, sE_m, sE_a, sE_c, A0, A2, A3, A4, A5, A6, A7, A8, A9, Ba, Bb, Bc, Bd, Be, Bf, Bg, Bh, Bi, Bj, Bl, Bm, Bo, Bp, Bq, Br, Bs, Bt, Bu, Bv, Tr.getP_e, Bw, Bx, ↓reduceIte, Nat.reduceEqDiff, Nat.reduceAdd, Nat.reduceSub, Nat.reduceMul, Nat.reduceDiv, Nat.reduceMod, Nat.zero_add, Nat.add_zero, beq_self_eq_true, Nat.zero_ne_one, Nat.one_ne_zero, Nat.reduceLeDiff, Int.reduceBEq, constF, unF, unary,  pickF, nilcF, faddrF, fldF, iaddrSF, arF, Bz, B3, B4, B5, B6, B7, convF, extF, lenF, eqcF, eqnF, eqN, eqPtr, isNone, loadF, storeF, allocF, callF, gets, Option.map_some, Option.bind_some, B8, B9, Ca, Cb, Cc, nbeq, nble, Cd, Ce, Cf, Cg, Ch, Ci, Cj, Ck, Cl, Cm, Cn, Co, Cp, Cq, Cr, Cs, Ct, Cu, Cv, Cw, Cx, V.w, width, unc, cmpCells, Cy, Cz, C6, C7, C8, Da, undef, List.append_nil, List.nil_append, List.cons_append, Db, Dc, resultsV, result, tup, Dd, Bool.and_true, Bool.true_and, Bool.and_self, decide_true, decide_false, Bool.not_true, Bool.not_false, Bool.true_beq, Bool.false_beq, beq_iff_eq, reduceCtorEq, Nat.succ_eq_add_one, ptr0, Int.ofNat_eq_natCast, Int.ofNat_le, Int.ofNat_lt, Int.natCast_add, De, Df, Dg, Dh, Di, List.map_cons, List.map_nil, Dj, Heap.next_add, Heap.next_set, boxF, buildF, fill, bsliceF, fillRows, List.replicate_one, Dk, Dl, Dm, Dn, Dp, Dq, Dr, Ds, Dt, Du, Dw, Dx, Dy, Dz, D2, D3, D4, D5, D6, D7, D8, D9, Ea, Eb, Ec, appF, List.length_cons, List.length_nil]), ec]
      simp only [Aa, Ab, Ad, Ae, Af, Ag, Ah, Ai, Aj, Ak, Al, Ao, Ap, Aq, Ar, Au, sO_p, sO_r, sO_m, sO_a, sO_c, Av, Aw, Ax, Ay, Az, sE_p, sE_r, sE_m, sE_a, sE_c, A0, A2, A3, A4, A5, A6, A7, A8, A9, Ba, Bb, Bc, Bd, Be, Bf, Bg, Bh, Bi, Bj, Bl, Bm, Bo, Bp, Bq, Br, Bs, Bt, Bu, Bv, Tr.getP_e, Bw, Bx, ↓reduceIte, Nat.reduceEqDiff, Nat.reduceAdd, Nat.reduceSub, Nat.reduceMul, Nat.reduceDiv, Nat.reduceMod, Nat.zero_add, Nat.add_zero, beq_self_eq_true, Nat.zero_ne_one, Nat.one_ne_zero, Nat.reduceLeDiff, Int.reduceBEq, constF, unF, unary,  pickF, nilcF, faddrF, fldF, iaddrSF, arF, Bz, B3, B4, B5, B6, B7, convF, extF, lenF, eqcF, eqnF, eqN, eqPtr, isNone, loadF, storeF, allocF, callF, gets, Option.map_some, Option.bind_some, B8, B9, Ca, Cb, Cc, nbeq, nble, Cd, Ce, Cf, Cg, Ch, Ci, Cj, Ck, Cl, Cm, Cn, Co, Cp, Cq, Cr, Cs, Ct, Cu, Cv, Cw, Cx, V.w, width, unc, cmpCells, Cy, Cz, C6, C7, C8, Da, undef, List.append_nil, List.nil_append, List.cons_append, Db, Dc, resultsV, result, tup, Dd, Bool.and_true, Bool.true_and, Bool.and_self, decide_true, decide_false, Bool.not_true, Bool.not_false, Bool.true_beq, Bool.false_beq, beq_iff_eq, reduceCtorEq, Nat.succ_eq_add_one, ptr0, Int.ofNat_eq_natCast, Int.ofNat_le, Int.ofNat_lt, Int.natCast_add, De, Df, Dg, Dh, Di, List.map_cons, List.map_nil, Dj, Heap.next_add, Heap.next_set, boxF, buildF, fill, bsliceF, fillRows, List.replicate_one, Dk, Dl, Dm, Dn, Dp, Dq, Dr, Ds, Dt, Du, Dw, Dx, Dy, Dz, D2, D3, D4, D5, D6, D7, D8, D9, Ea, Eb, Ec, appF, List.length_cons, List.length_nil]
      rw [endD_ok (by kernel_rfl) (by kernel_rfl)]
      simp only [q0, q1, q6, q25, q26, q27, hw, Aa, Ab, Ad, Ae, Af, Ag, Ah, Ai, Aj, Ak, Al, Ao, Ap, Aq, Ar, Au, sO_p, sO_r, sO_m, sO_a, sO_c, Av, Aw, Ax, Ay, Az, sE_p, sE_r, sE_m, sE_a, sE_c, A0, A2, A3, A4, A5, A6, A7, A8, A9, Ba, Bb, Bc, Bd, Be, Bf, Bg, Bh, Bi, Bj, Bl, Bm, Bo, Bp, Bq, Br, Bs, Bt, Bu, Bv, Tr.getP_e, Bw, Bx, ↓reduceIte, Nat.reduceEqDiff, Nat.reduceAdd, Nat.reduceSub, Nat.reduceMul, Nat.reduceDiv, Nat.reduceMod, Nat.zero_add, Nat.add_zero, beq_self_eq_true, Nat.zero_ne_one, Nat.one_ne_zero, Nat.reduceLeDiff, Int.reduceBEq, constF, unF, unary,  pickF, nilcF, faddrF, fldF, iaddrSF, arF, Bz, B3, B4, B5, B6, B7, convF, extF, lenF, eqcF, eqnF, eqN, eqPtr, isNone, loadF, storeF, allocF, callF, gets, Option.map_some, Option.bind_some, B8, B9, Ca, Cb, Cc, nbeq, nble, Cd, Ce, Cf, Cg, Ch, Ci, Cj, Ck, Cl, Cm, Cn, Co, Cp, Cq, Cr, Cs, Ct, Cu, Cv, Cw, Cx, V.w, width, unc, cmpCells, Cy, Cz, C6, C7, C8, Da, undef, List.append_nil, List.nil_append, List.cons_append, Db, Dc, resultsV, result, tup, Dd, Bool.and_true, Bool.true_and, Bool.and_self, decide_true, decide_false, Bool.not_true, Bool.not_false, Bool.true_beq, Bool.false_beq, beq_iff_eq, reduceCtorEq, Nat.succ_eq_add_one, ptr0, Int.ofNat_eq_natCast, Int.ofNat_le, Int.ofNat_lt, Int.natCast_add, De, Df, Dg, Dh, Di, List.map_cons, List.map_nil, Dj, Heap.next_add, Heap.next_set, boxF, buildF, fill, bsliceF, fillRows, List.replicate_one, Dk, Dl, Dm, Dn, Dp, Dq, Dr, Ds, Dt, Du, Dw, Dx, Dy, Dz, D2, D3, D4, D5, D6, D7, D8, D9, Ea, Eb, Ec, appF, List.length_cons, List.length_nil]
      refine ⟨k, Nat.lt_succ_self k, i + 1, by omega, trivial, trivial, by rw [hpx], trivial, by rw [hp], trivial, rfl, ?_, hTA.trans (hT3.wide (fun c hc => .inr (.inl hc)))⟩
      rw [crashS_take hiz, List.getElem_zip, getD_lt hn]
      exact hD3
  have hmm : min (D.L.length : Int) (P.length : Int) = ((min D.L.length P.length : Nat) : Int) := by omega
  simp only [c19, e, l1, foldF, foldV_min, hmm, Aa, Ab, Ad, Ae, Af, Ag, Ah, Ai, Aj, Ak, Al, Ao, Ap, Aq, Ar, Au, sO_p, sO_r, sO_m, sO_a, sO_c, Av, Aw, Ax, Ay, Az, sE_p, sE_r, sE_m, sE_a, sE_c, A0, A2, A3, A4, A5, A6, A7, A8, A9, Ba, Bb, Bc, Bd, Be, Bf, Bg, Bh, Bi, Bj, Bl, Bm, Bo, Bp, Bq, Br, Bs, Bt, Bu, Bv, Tr.getP_e, Bw, Bx, ↓reduceIte, Nat.reduceEqDiff, Nat.reduceAdd, Nat.reduceSub, Nat.reduceMul, Nat.reduceDiv, Nat.reduceMod, Nat.zero_add, Nat.add_zero, beq_self_eq_true, Nat.zero_ne_one, Nat.one_ne_zero, Nat.reduceLeDiff, Int.reduceBEq, constF, unF, unary,  pickF, nilcF, faddrF, fldF, iaddrSF, arF, Bz, B3, B4, B5, B6, B7, convF, extF, lenF, eqcF, eqnF, eqN, eqPtr, isNone, loadF, storeF, allocF, callF, gets, Option.map_some, Option.bind_some, B8, B9, Ca, Cb, Cc, nbeq, nble, Cd, Ce, Cf, Cg, Ch, Ci, Cj, Ck, Cl, Cm, Cn, Co, Cp, Cq, Cr, Cs, Ct, Cu, Cv, Cw, Cx, V.w, width, unc, cmpCells, Cy, Cz, C6, C7, C8, Da, undef, List.append_nil, List.nil_append, List.cons_append, Db, Dc, resultsV, result, tup, Dd, Bool.and_true, Bool.true_and, Bool.and_self, decide_true, decide_false, Bool.not_true, Bool.not_false, Bool.true_beq, Bool.false_beq, beq_iff_eq, reduceCtorEq, Nat.succ_eq_add_one, ptr0, Int.ofNat_eq_natCast, Int.ofNat_le, Int.ofNat_lt, Int.natCast_add, De, Df, Dg, Dh, Di, List.map_cons, List.map_nil, Dj, Heap.next_add, Heap.next_set, boxF, buildF, fill, bsliceF, fillRows, List.replicate_one, Dk, Dl, Dm, Dn, Dp, Dq, Dr, Ds, Dt, Du, Dw, Dx, Dy, Dz, D2, D3, D4, D5, D6, D7, D8, D9, Ea, Eb, Ec, appF, List.length_cons, List.length_nil]
  rw [sliceF_loose (p := y.p) (len := D.L.length) (o := y.o) (k := min D.L.length P.length) (by simp only [Aa, Ab, Ad, Ae, Af, Ag, Ah, Ai, Aj, Ak, Al, Ao, Ap, Aq, Ar, Au, sO_p, sO_r, sO_m, sO_a, sO_c, Av, Aw, Ax, Ay, Az, sE_p, sE_r, sE_m, sE_a, sE_c, A0, A2, A3, A4, A5, A6, A7, A8, A9, Ba, Bb, Bc, Bd, Be, Bf, Bg, Bh, Bi, Bj, Bl, Bm, Bo, Bp, Bq, Br, Bs, Bt, Bu, Bv, Tr.getP_e, Bw, Bx, ↓reduceIte, Nat.reduceEqDiff, Nat.reduceAdd, Nat.reduceSub, Nat.reduceMul, Nat.reduceDiv, Nat.reduceMod, Nat.zero_add, Nat.add_zero, beq_self_eq_true, Nat.zero_ne_one, Nat.one_ne_zero, Nat.reduceLeDiff, Int.reduceBEq, constF, unF, unary,  pickF, nilcF, faddrF, fldF, iaddrSF, arF, Bz, B3, B4, B5, B6, B7, convF, extF, lenF, eqcF, eqnF, eqN, eqPtr, isNone, loadF, storeF, allocF, callF, gets, Option.map_some, Option.bind_some, B8, B9, Ca, Cb, Cc, nbeq, nble, Cd, Ce, Cf, Cg, Ch, Ci, Cj, Ck, Cl, Cm, Cn, Co, Cp, Cq, Cr, Cs, Ct, Cu, Cv, Cw, Cx, V.w, width, unc, cmpCells, Cy, Cz, C6, C7, C8, Da, undef, List.append_nil, List.nil_append, List.cons_append, Db, Dc, resultsV, result, tup, Dd, Bool.and_true, Bool.true_and, Bool.and_self, decide_true, decide_false, Bool.not_true, Bool.not_false, Bool.true_beq, Bool.false_beq, beq_iff_eq, reduceCtorEq, Nat.succ_eq_add_one, ptr0, Int.ofNat_eq_natCast, Int.ofNat_le, Int.ofNat_lt, Int.natCast_add, De, Df, Dg, Dh, Di, List.map_cons, List.map_nil, Dj, Heap.next_add, Heap.next_set, boxF, buildF, fill, bsliceF, fillRows, List.replicate_one, Dk, Dl, Dm, Dn, Dp, Dq, Dr, Ds, Dt, Du, Dw, Dx, Dy, Dz, D2, D3, D4, D5, D6, D7, D8, D9, Ea, Eb, Ec, appF, List.length_cons, List.length_nil]) (by simp only [Aa, Ab, Ad, Ae, Af, Ag, Ah, Ai, Aj, Ak, Al, Ao, Ap, Aq, Ar, Au, sO_p, sO_r, sO_m, sO_a, sO_c, Av, Aw, Ax, Ay, Az, sE_p, sE_r, sE_m, sE_a, sE_c, A0, A2, A3, A4, A5, A6, A7, A8, A9, Ba, Bb, Bc, Bd, Be, Bf, Bg, Bh, Bi, Bj, Bl, Bm, Bo, Bp, Bq, Br, Bs, Bt, Bu, Bv, Tr.getP_e, Bw, Bx, ↓reduceIte, Nat.reduceEqDiff, Nat.reduceAdd, Nat.reduceSub, Nat.reduceMul, Nat.reduceDiv, Nat.reduceMod, Nat.zero_add, Nat.add_zero, beq_self_eq_true, Nat.zero_ne_one, Nat.one_ne_zero, Nat.reduceLeDiff, Int.reduceBEq, constF, unF, unary,  pickF, nilcF, faddrF, fldF, iaddrSF, arF, Bz, B3, B4, B5, B6, B7, convF, extF, lenF, eqcF, eqnF, eqN, eqPtr, isNone, loadF, storeF, allocF, callF, gets, Option.map_some, Option.bind_some, B8, B9, Ca, Cb, Cc, nbeq, nble, Cd, Ce, Cf, Cg, Ch, Ci, Cj, Ck, Cl, Cm, Cn, Co, Cp, Cq, Cr, Cs, Ct, Cu, Cv, Cw, Cx, V.w, width, unc, cmpCells, Cy, Cz, C6, C7, C8, Da, undef, List.append_nil, List.nil_append, List.cons_append, Db, Dc, resultsV, result, tup, Dd, Bool.and_true, Bool.true_and, Bool.and_self, decide_true, decide_false, Bool.not_true, Bool.not_false, Bool.true_beq, Bool.false_beq, beq_iff_eq, reduceCtorEq, Nat.succ_eq_add_one, ptr0, Int.ofNat_eq_natCast, Int.ofNat_le, Int.ofNat_lt, Int.natCast_add, De, Df, Dg, Dh, Di, List.map_cons, List.map_nil, Dj, Heap.next_add, Heap.next_set, boxF, buildF, fill, bsliceF, fillRows, List.replicate_one, Dk, Dl, Dm, Dn, Dp, Dq, Dr, Ds, Dt, Du, Dw, Dx, Dy, Dz, D2, D3, D4, D5, D6, D7, D8, D9, Ea, Eb, Ec, appF, List.length_cons, List.length_nil]) (by omega) (by
    by_cases hL : D.L = []
    · exact .inl ⟨by rw [hL]; rfl, h.nil hL⟩
    · exact .inr ⟨by simpa using hL, (h.loose hL).2.1⟩)]
  simp only [Aa, Ab, Ad, Ae, Af, Ag, Ah, Ai, Aj, Ak, Al, Ao, Ap, Aq, Ar, Au, sO_p, sO_r, sO_m, sO_a, sO_c, Av, Aw, Ax, Ay, Az, sE_p, sE_r, sE_m, sE_a, sE_c, A0, A2, A3, A4, A5, A6, A7, A8, A9, Ba, Bb, Bc, Bd, Be, Bf, Bg, Bh, Bi, Bj, Bl, Bm, Bo, Bp, Bq, Br, Bs, Bt, Bu, Bv, Tr.getP_e, Bw, Bx, ↓reduceIte, Nat.reduceEqDiff, Nat.reduceAdd, Nat.reduceSub, Nat.reduceMul, Nat.reduceDiv, Nat.reduceMod, Nat.zero_add, Nat.add_zero, beq_self_eq_true, Nat.zero_ne_one, Nat.one_ne_zero, Nat.reduceLeDiff, Int.reduceBEq, constF, unF, unary,  pickF, nilcF, faddrF, fldF, iaddrSF, arF, Bz, B3, B4, B5, B6, B7, convF, extF, lenF, eqcF, eqnF, eqN, eqPtr, isNone, loadF, storeF, allocF, callF, gets, Option.map_some, Option.bind_some, B8, B9, Ca, Cb, Cc, nbeq, nble, Cd, Ce, Cf, Cg, Ch, Ci, Cj, Ck, Cl, Cm, Cn, Co, Cp, Cq, Cr, Cs, Ct, Cu, Cv, Cw, Cx, V.w, width, unc, cmpCells, Cy, Cz, C6, C7, C8, Da, undef, List.append_nil, List.nil_append, List.cons_append, Db, Dc, resultsV, result, tup, Dd, Bool.and_true, Bool.true_and, Bool.and_self, decide_true, decide_false, Bool.not_true, Bool.not_false, Bool.true_beq, Bool.false_beq, beq_iff_eq, reduceCtorEq, Nat.succ_eq_add_one, ptr0, Int.ofNat_eq_natCast, Int.ofNat_le, Int.ofNat_lt, Int.natCast_add, De, Df, Dg, Dh, Di, List.map_cons, List.map_nil, Dj, Heap.next_add, Heap.next_set, boxF, buildF, fill, bsliceF, fillRows, List.replicate_one, Dk, Dl, Dm, Dn, Dp, Dq, Dr, Ds, Dt, Du, Dw, Dx, Dy, Dz, D2, D3, D4, D5, D6, D7, D8, D9, Ea, Eb, Ec, appF, List.length_cons, List.length_nil]
  refine wp_ctx (F := fun r => seqC _ _ _ (blockC _ r)) (hloop _ ?_ ?_ ?_ ?_ ?_ ?_) ?_
  · simp only [Bv, Tr.getP_e, ↓reduceIte, Nat.reduceEqDiff, Nat.zero_ne_one, Nat.one_ne_zero, Bw, Bx, Nat.reduceAdd, Nat.zero_add, Int.ofNat_eq_natCast]
  · simp only [Bv, Tr.getP_e, ↓reduceIte, Nat.reduceEqDiff, Nat.zero_ne_one, Nat.one_ne_zero, Bw, Bx, Nat.reduceAdd, Nat.zero_add, Int.ofNat_eq_natCast]
  · simp only [Bv, Tr.getP_e, ↓reduceIte, Nat.reduceEqDiff, Nat.zero_ne_one, Nat.one_ne_zero, Bw, Bx, Nat.reduceAdd, Nat.zero_add, Int.ofNat_eq_natCast]
  · simp only [Bv, Tr.getP_e, ↓reduceIte, Nat.reduceEqDiff, Nat.zero_ne_one, Nat.one_ne_zero, Bw, Bx, Nat.reduceAdd, Nat.zero_add, Int.ofNat_eq_natCast]
  · simp only [Bv, Tr.getP_e, ↓reduceIte, Nat.reduceEqDiff, Nat.zero_ne_one, Nat.one_ne_zero, Bw, Bx, Nat.reduceAdd, Nat.zero_add, Int.ofNat_eq_natCast]
  · simp only [Bv, Tr.getP_e, ↓reduceIte, Nat.reduceEqDiff, Nat.zero_ne_one, Nat.one_ne_zero, Bw, Bx, Nat.reduceAdd, Nat.zero_add, Int.ofNat_eq_natCast]
  rintro x ⟨t, HH, d⟩ ⟨rfl, rfl, q0, q6, hD, hT⟩
  dsimp only at q0 q6 hD hT
  have st := storeNil hD
  simp only [q0, q6, st, Aa, Ab, Ad, Ae, Af, Ag, Ah, Ai, Aj, Ak, Al, Ao, Ap, Aq, Ar, Au, sO_p, sO_r, sO_m, sO_a, sO_c, Av, Aw, Ax, Ay, Az, sE_p, sE_r, sE_m, sE_a, sE_c, A0, A2, A3, A4, A5, A6, A7, A8, A9, Ba, Bb, Bc, Bd, Be, Bf, Bg, Bh, Bi, Bj, Bl, Bm, Bo, Bp, Bq, Br, Bs, Bt, Bu, Bv, Tr.getP_e, Bw, Bx, ↓reduceIte, Nat.reduceEqDiff, Nat.reduceAdd, Nat.reduceSub, Nat.reduceMul, Nat.reduceDiv, Nat.reduceMod, Nat.zero_add, Nat.add_zero, beq_self_eq_true, Nat.zero_ne_one, Nat.one_ne_zero, Nat.reduceLeDiff, Int.reduceBEq, constF, unF, unary,  pickF, nilcF, faddrF, fldF, iaddrSF, arF, Bz, B3, B4, B5, B6, B7, convF, extF, lenF, eqcF, eqnF, eqN, eqPtr, isNone, loadF, storeF, allocF, callF, gets, Option.map_some, Option.bind_some, B8, B9, Ca, Cb, Cc, nbeq, nble, Cd, Ce, Cf, Cg, Ch, Ci, Cj, Ck, Cl, Cm, Cn, Co, Cp, Cq, Cr, Cs, Ct, Cu, Cv, Cw, Cx, V.w, width, unc, cmpCells, Cy, Cz, C6, C7, C8, Da, undef, List.append_nil, List.nil_append, List.cons_append, Db, Dc, resultsV, result, tup, Dd, Bool.and_true, Bool.true_and, Bool.and_self, decide_true, decide_false, Bool.not_true, Bool.not_false, Bool.true_beq, Bool.false_beq, beq_iff_eq, reduceCtorEq, Nat.succ_eq_add_one, ptr0, Int.ofNat_eq_natCast, Int.ofNat_le, Int.ofNat_lt, Int.natCast_add, De, Df, Dg, Dh, Di, List.map_cons, List.map_nil, Dj, Heap.next_add, Heap.next_set, boxF, buildF, fill, bsliceF, fillRows, List.replicate_one, Dk, Dl, Dm, Dn, Dp, Dq, Dr, Ds, Dt, Du, Dw, Dx, Dy, Dz, D2, D3, D4, D5, D6, D7, D8, D9, Ea, Eb, Ec, appF, List.length_cons, List.length_nil]
  exact ⟨trivial, .inr trivial, _, rfl, rfl, hD.clear D.dead, hT.setm (.inl rfl) _, rfl, fun e => absurd rfl e⟩

end Go.Proofs.Ytcelngepfdchiaa.disk

