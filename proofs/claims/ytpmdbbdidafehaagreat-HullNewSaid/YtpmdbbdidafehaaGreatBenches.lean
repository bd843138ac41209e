import Derived.Test.YtpmdbbdidafehaaGreatDisks
/-
  A bench in the machine's heap: its devices, its steps, at which step the power is cut.
-/
set_option linter.unusedVariables false
set_option linter.unusedSimpArgs false
set_option maxRecDepth 10000
namespace Go.Proofs.YtpmdbbdidafehaaGreat.disk
open Go.Am

/-- (*ashlar/bench.Bench).none -/
noncomputable def c60 : CFn := ⟨[.tmp (pp 2)],
 .seq (.reg [
 qo 2 (.p (S.get (.c (.bool false)))) []]) (
 .seq (.reg [
 mv 3 0,
 qo 4 (.r (eqnF false .ptr (tt 3) (.c (.ptr none)))) [pp 3],
 mv 5 4,
 mg 6 0 5 false,
 qg 7 (.p (nilcF (tt 6))) 5 false [pp 6],
 qg 8 (.p (faddrF (tt 7) 0)) 5 false [pp 7],
 qg 9 (.r (loadF (tt 8) 1 .sc)) 5 false [pp 8],
 qg 10 (.p (lenF (tt 9))) 5 false [pp 9],
 qg 11 (.p (eqcF false false [.int .i64] (tt 10) (ii 0))) 5 false [pp 10],
 qo 12 (.p (pickF (tt 5) (.c (.bool true)) (tt 11))) [pp 5, pp 11],
 mv 2 12]) (
 .ret))⟩
theorem c60_eq : fnOf Tryz.prog 60 = some c60 := by kernel_rfl

/-- (*ashlar/bench.Bench).has -/
noncomputable def c108 : CFn := ⟨[.tmp (pp 4)],
 .seq (.reg [
 qo 4 (.p (S.get (.c (.bool false)))) []]) (
 .seq (.reg [
 mv 5 1,
 qo 6 (.p (arF .geq (tt 5) (ii 0))) [pp 5],
 mv 7 6,
 mg 8 1 7 true,
 mg 9 0 7 true,
 qg 10 (.p (nilcF (tt 9))) 7 true [pp 9],
 qg 11 (.p (faddrF (tt 10) 0)) 7 true [pp 10],
 qg 12 (.r (loadF (tt 11) 1 .sc)) 7 true [pp 11],
 qg 13 (.p (lenF (tt 12))) 7 true [pp 12],
 qg 14 (.p (arF .lss (tt 8) (tt 13))) 7 true [pp 8, pp 13],
 qo 15 (.p (pickF (tt 7) (tt 14) (.c (.bool false)))) [pp 7, pp 14],
 mv 4 15]) (
 .ret))⟩
theorem c108_eq : fnOf Tryz.prog 108 = some c108 := by kernel_rfl

/-- (*ashlar/bench.Bench).there -/
noncomputable def c56 : CFn := ⟨[.tmp (pp 4)],
 .seq (.reg [
 qo 4 (.p (S.get (ii 0))) []]) (
 .seq (.block 0 (.seq (.reg [
 mv 6 0,
 qo 7 (.c (callF (ff 60) [(tt 6)])) [pp 6],
 mv 5 7]) (
 .cond (tt 5) (.seq (.reg [
 qo 4 (.p (S.get (ii 1))) []]) (
 .ret)) (.seq (.reg [
 mv 9 0,
 mv 10 1,
 qo 11 (.c (callF (ff 108) [(tt 9), (tt 10)])) [pp 9, pp 10],
 qo 12 (.p (unF .not (tt 11))) [pp 11],
 mv 8 12]) (
 .cond (tt 8) (.seq (.reg [
 qo 4 (.p (S.get (ii 2))) []]) (
 .ret)) (.skip)))))) (
 .seq (.reg [
 qo 4 (.p (S.get (ii 0))) []]) (
 .ret)))⟩
theorem c56_eq : fnOf Tryz.prog 56 = some c56 := by kernel_rfl

/-- (*ashlar/bench.Bench).lit -/
noncomputable def c105 : CFn := ⟨[.tmp (pp 4)],
 .seq (.reg [
 qo 4 (.p (S.get (ii 0))) []]) (
 .seq (.seq (.reg [
 mv 5 0,
 qo 6 (.c (callF (ff 60) [(tt 5)])) [pp 5],
 qo 7 (.p (unF .not (tt 6))) [pp 6],
 mv 8 7,
 mg 9 0 8 true,
 qg 10 (.p (nilcF (tt 9))) 8 true [pp 9],
 qg 11 (.p (faddrF (tt 10) 3)) 8 true [pp 10],
 qg 12 (.r (loadF (tt 11) 1 .sc)) 8 true [pp 11],
 qo 13 (.p (pickF (tt 8) (tt 12) (.c (.bool false)))) [pp 8, pp 12]]) (
 .cond (tt 13) (.seq (.reg [
 qo 4 (.p (S.get (ii 8))) []]) (
 .ret)) (.skip))) (
 .seq (.reg [
 mv 14 0,
 mv 15 1,
 qo 16 (.c (callF (ff 56) [(tt 14), (tt 15)])) [pp 14, pp 15],
 mv 4 16]) (
 .ret)))⟩
theorem c105_eq : fnOf Tryz.prog 105 = some c105 := by kernel_rfl

/-- (*ashlar/bench.Bench).Read -/
noncomputable def c48 : CFn := ⟨[.cell (pp 6) 64 .bk, .tmp (pp 7)],
 .seq (.reg [
 qo 6 (.m (allocF 64 [.blk 0])) [],
 qo 7 (.p (S.get (ii 0))) []]) (
 .seq (.seq (.reg [
 mv 9 0,
 mv 10 1,
 qo 11 (.c (callF (ff 105) [(tt 9), (tt 10)])) [pp 9, pp 10],
 mv 8 11]) (
 .seq (.reg [
 mv 12 8,
 qo 13 (.p (eqcF true false [.int .i64] (tt 12) (ii 0))) [pp 12]]) (
 .cond (tt 13) (.seq (.reg [
 qo 14 (.p (buildF [.blk 0] .bk [])) [],
 mv 15 8,
 qn (.a (storeF (tt 6) (tt 14) 64)) [pp 6, pp 14],
 mv 7 15]) (
 .ret)) (.skip)))) (
 .seq (.reg [
 mv 16 0,
 qo 17 (.p (nilcF (tt 16))) [pp 16],
 qo 18 (.p (faddrF (tt 17) 0)) [pp 17],
 qo 19 (.r (loadF (tt 18) 1 .sc)) [pp 18],
 mv 20 1,
 qo 21 (.p (iaddrSF (tt 19) (tt 20) 1)) [pp 19, pp 20],
 qo 22 (.r (loadF (tt 21) 1 .sc)) [pp 21],
 mv 23 2,
 qo 24 (.c (callF (ff 106) [(tt 22), (tt 23)])) [pp 22, pp 23],
 qo 25 (.p (extF (tt 24) 0)) [pp 24],
 qo 26 (.p (extF (tt 24) 1)) [pp 24],
 qn (.a (storeF (tt 6) (tt 25) 64)) [pp 6, pp 25],
 mv 7 26]) (
 .ret)))⟩
theorem c48_eq : fnOf Tryz.prog 48 = some c48 := by kernel_rfl

/-- (*ashlar/bench.Bench).step -/
noncomputable def c49 : CFn := ⟨[.tmp (pp 4)],
 .seq (.reg [
 qo 4 (.p (S.get (ii 0))) []]) (
 .seq (.seq (.reg [
 mv 5 0,
 qo 6 (.p (nilcF (tt 5))) [pp 5],
 qo 7 (.p (faddrF (tt 6) 2)) [pp 6],
 qo 8 (.r (loadF (tt 7) 1 .sc)) [pp 7]]) (
 .block 0 (.seq (.reg [
 qo 17 (.p (eqcF false false [.int .i64] (tt 8) (ii 0))) [pp 8],
 mv 16 17]) (
 .cond (tt 16) (.skip) (.seq (.reg [
 qo 19 (.p (eqcF false false [.int .i64] (tt 8) (ii 1))) [pp 8],
 mv 18 19]) (
 .cond (tt 18) (.seq (.reg [
 mv 20 0,
 qo 21 (.p (nilcF (tt 20))) [pp 20],
 qo 22 (.p (faddrF (tt 21) 3)) [pp 21],
 qn (.a (storeF (tt 22) (.c (.bool true)) 1)) [pp 22]]) (
 .seq (.reg [
 qo 4 (.p (S.get (ii 8))) []]) (
 .ret))) (.reg [
 mv 9 0,
 qo 10 (.p (nilcF (tt 9))) [pp 9],
 qo 11 (.p (faddrF (tt 10) 2)) [pp 10],
 qo 12 (.r (loadF (tt 11) 1 .sc)) [pp 11],
 qo 13 (.p (arF .sub (tt 12) (ii 1))) [pp 12],
 qo 14 (.p (nilcF (tt 9))) [pp 9],
 qo 15 (.p (faddrF (tt 14) 2)) [pp 14],
 qn (.a (storeF (tt 15) (tt 13) 1)) [pp 15, pp 13]]))))))) (
 .seq (.reg [
 mv 23 0,
 qo 24 (.p (nilcF (tt 23))) [pp 23],
 qo 25 (.p (faddrF (tt 24) 1)) [pp 24],
 qo 26 (.r (loadF (tt 25) 1 .sc)) [pp 25],
 qo 27 (.p (arF .add (tt 26) (ii 1))) [pp 26],
 qo 28 (.p (nilcF (tt 23))) [pp 23],
 qo 29 (.p (faddrF (tt 28) 1)) [pp 28],
 qn (.a (storeF (tt 29) (tt 27) 1)) [pp 29, pp 27]]) (
 .seq (.reg [
 mv 30 1,
 qo 31 (.c (callF (tt 30) [])) [pp 30],
 mv 4 31]) (
 .ret))))⟩
theorem c49_eq : fnOf Tryz.prog 49 = some c49 := by kernel_rfl

/-- (*ashlar/bench.Bench).Write$1 -/
noncomputable def c50 : CFn := ⟨[.tmp (pp 4)],
 .seq (.reg [
 qo 4 (.p (S.get (ii 0))) []]) (
 .seq (.regD [
 qo 5 (.r (loadF (tt 0) 1 .sc)) [pp 0],
 qo 6 (.p (nilcF (tt 5))) [pp 5],
 qo 7 (.p (faddrF (tt 6) 0)) [pp 6],
 qo 8 (.r (loadF (tt 7) 1 .sc)) [pp 7],
 qo 9 (.r (loadF (tt 1) 1 .sc)) [pp 1],
 qo 10 (.p (iaddrSF (tt 8) (tt 9) 1)) [pp 8, pp 9],
 qo 11 (.r (loadF (tt 10) 1 .sc)) [pp 10],
 qo 12 (.r (loadF (tt 2) 1 .sc)) [pp 2],
 qo 13 (.r (loadF (tt 3) 64 .bk)) [pp 3],
 qo 14 (.c (callF (ff 51) [(tt 11), (tt 12), (tt 13)])) [pp 11, pp 12, pp 13],
 mv 4 14] [0, 1, 3, 7, 0, 31, 63, 0, 0, 511, 1023]) (
 .ret))⟩
theorem c50_eq : fnOf Tryz.prog 50 = some c50 := by kernel_rfl

/-- (*ashlar/bench.Bench).Write -/
noncomputable def c9 : CFn := ⟨[.tmp (pp 8)],
 .seq (.reg [
 qo 4 (.m (boxF 1 (tt 0))) [pp 0],
 qo 5 (.m (boxF 1 (tt 1))) [pp 1],
 qo 6 (.m (boxF 1 (tt 2))) [pp 2],
 qo 7 (.m (boxF 64 (tt 3))) [pp 3],
 qo 8 (.p (S.get (ii 0))) []]) (
 .seq (.seq (.reg [
 qo 12 (.r (loadF (tt 4) 1 .sc)) [pp 4],
 qo 13 (.r (loadF (tt 5) 1 .sc)) [pp 5],
 qo 14 (.r (loadF (tt 6) 1 .sc)) [pp 6],
 qo 15 (.c (callF (ff 48) [(tt 12), (tt 13), (tt 14)])) [pp 12, pp 13, pp 14],
 mv 11 15,
 qo 16 (.p (extF (tt 11) 0)) [pp 11],
 qo 17 (.p (extF (tt 11) 1)) [pp 11],
 qo 9 (.m (allocF 64 [.blk 0])) [],
 qn (.a (storeF (tt 9) (tt 16) 64)) [pp 9, pp 16],
 mv 10 17]) (
 .seq (.reg [
 mv 18 10,
 qo 19 (.p (eqcF true false [.int .i64] (tt 18) (ii 0))) [pp 18]]) (
 .cond (tt 19) (.seq (.reg [
 mv 20 10,
 mv 8 20]) (
 .ret)) (.skip)))) (
 .seq (.reg [
 qo 21 (.r (loadF (tt 4) 1 .sc)) [pp 4],
 qo 22 (.p (mkfnF (.func 50) [] [(tt 4), (tt 5), (tt 6), (tt 7)])) [pp 4, pp 5, pp 6, pp 7],
 qo 23 (.c (callF (ff 49) [(tt 21), (tt 22)])) [pp 21, pp 22],
 mv 8 23]) (
 .ret)))⟩
theorem c9_eq : fnOf Tryz.prog 9 = some c9 := by kernel_rfl

/-- (*ashlar/bench.Bench).Flush -/
noncomputable def c15 : CFn := ⟨[.tmp (pp 4)],
 .seq (.reg [
 qo 4 (.p (S.get (ii 0))) []]) (
 .seq (.seq (.reg [
 mv 8 0,
 mv 9 1,
 qo 10 (.c (callF (ff 48) [(tt 8), (tt 9), (ii 0)])) [pp 8, pp 9],
 mv 7 10,
 qo 11 (.p (extF (tt 7) 0)) [pp 7],
 qo 12 (.p (extF (tt 7) 1)) [pp 7],
 qo 5 (.m (allocF 64 [.blk 0])) [],
 qn (.a (storeF (tt 5) (tt 11) 64)) [pp 5, pp 11],
 mv 6 12]) (
 .seq (.reg [
 mv 13 6,
 qo 14 (.p (eqcF true false [.int .i64] (tt 13) (ii 0))) [pp 13]]) (
 .cond (tt 14) (.seq (.reg [
 mv 15 6,
 mv 4 15]) (
 .ret)) (.skip)))) (
 .seq (.reg [
 mv 16 0,
 mv 17 0,
 qo 18 (.p (nilcF (tt 17))) [pp 17],
 qo 19 (.p (faddrF (tt 18) 0)) [pp 18],
 qo 20 (.r (loadF (tt 19) 1 .sc)) [pp 19],
 mv 21 1,
 qo 22 (.p (iaddrSF (tt 20) (tt 21) 1)) [pp 20, pp 21],
 qo 23 (.r (loadF (tt 22) 1 .sc)) [pp 22],
 qo 24 (.p (mkfnF (.func 61) [(tt 23)] [])) [pp 23],
 qo 25 (.c (callF (ff 49) [(tt 16), (tt 24)])) [pp 16, pp 24],
 mv 4 25]) (
 .ret)))⟩
theorem c15_eq : fnOf Tryz.prog 15 = some c15 := by kernel_rfl

/-- (*ashlar/bench.Bench).Arm -/
noncomputable def c13 : CFn := ⟨[.tmp (pp 4)],
 .seq (.reg [
 qo 4 (.p (S.get (ii 0))) []]) (
 .seq (.block 0 (.seq (.reg [
 mv 6 0,
 qo 7 (.c (callF (ff 60) [(tt 6)])) [pp 6],
 mv 5 7]) (
 .cond (tt 5) (.seq (.reg [
 qo 4 (.p (S.get (ii 1))) []]) (
 .ret)) (.seq (.reg [
 mv 9 0,
 qo 10 (.p (nilcF (tt 9))) [pp 9],
 qo 11 (.p (faddrF (tt 10) 3)) [pp 10],
 qo 12 (.r (loadF (tt 11) 1 .sc)) [pp 11],
 mv 8 12]) (
 .cond (tt 8) (.seq (.reg [
 qo 4 (.p (S.get (ii 8))) []]) (
 .ret)) (.seq (.reg [
 mv 14 1,
 qo 15 (.p (arF .lss (tt 14) (ii 0))) [pp 14],
 mv 13 15]) (
 .cond (tt 13) (.seq (.reg [
 qo 4 (.p (S.get (ii 2))) []]) (
 .ret)) (.skip)))))))) (
 .seq (.reg [
 mv 16 0,
 mv 17 1,
 qo 18 (.p (nilcF (tt 16))) [pp 16],
 qo 19 (.p (faddrF (tt 18) 2)) [pp 18],
 qn (.a (storeF (tt 19) (tt 17) 1)) [pp 19, pp 17]]) (
 .seq (.reg [
 qo 4 (.p (S.get (ii 0))) []]) (
 .ret))))⟩
theorem c13_eq : fnOf Tryz.prog 13 = some c13 := by kernel_rfl

/-- (*ashlar/bench.Bench).Dark -/
noncomputable def c64 : CFn := ⟨[.tmp (pp 2)],
 .seq (.reg [
 qo 2 (.p (S.get (.c (.bool false)))) []]) (
 .seq (.reg [
 mv 3 0,
 qo 4 (.c (callF (ff 60) [(tt 3)])) [pp 3],
 qo 5 (.p (unF .not (tt 4))) [pp 4],
 mv 6 5,
 mg 7 0 6 true,
 qg 8 (.p (nilcF (tt 7))) 6 true [pp 7],
 qg 9 (.p (faddrF (tt 8) 3)) 6 true [pp 8],
 qg 10 (.r (loadF (tt 9) 1 .sc)) 6 true [pp 9],
 qo 11 (.p (pickF (tt 6) (tt 10) (.c (.bool false)))) [pp 6, pp 10],
 mv 2 11]) (
 .ret))⟩
theorem c64_eq : fnOf Tryz.prog 64 = some c64 := by kernel_rfl

/-- (*ashlar/bench.Bench).Steps -/
noncomputable def c30 : CFn := ⟨[.tmp (pp 2)],
 .seq (.reg [
 qo 2 (.p (S.get (ii 0))) []]) (
 .seq (.seq (.reg [
 mv 3 0,
 qo 4 (.c (callF (ff 60) [(tt 3)])) [pp 3]]) (
 .cond (tt 4) (.seq (.reg [
 qo 2 (.p (S.get (ii 0))) []]) (
 .ret)) (.skip))) (
 .seq (.reg [
 mv 5 0,
 qo 6 (.p (nilcF (tt 5))) [pp 5],
 qo 7 (.p (faddrF (tt 6) 1)) [pp 6],
 qo 8 (.r (loadF (tt 7) 1 .sc)) [pp 7],
 mv 2 8]) (
 .ret)))⟩
theorem c30_eq : fnOf Tryz.prog 30 = some c30 := by kernel_rfl


structure Dv where
  b : Bk
  y : Lay
  D : Dev
def Dv.foot (x : Dv) : Bk → Prop := Foot x.b x.y x.D

structure DvsAt (H : Heap) (b ds : Bk) (so : Nat) (l : List Dv) (r1 r2 r3 : V) : Prop where
  own : H.get b = some (.rows false 4 [[.slice (some ⟨ds, 0⟩) l.length l.length so, r1, r2, r3]])
  ptrs : H.get ds = some (.rows false 1 (l.map fun x => [.ptr (some ⟨x.b, 0⟩)]))
  dev : ∀ i (h : i < l.length), DevAt H l[i].b l[i].y l[i].D
  sep : ∀ i j (hi : i < l.length) (hj : j < l.length), i ≠ j → Sep l[i].b l[i].y l[i].D l[j].b l[j].y l[j].D
  old : H.Old b ∧ H.Old ds
  ne : b ≠ ds
  out : ∀ i (h : i < l.length), ¬ l[i].foot b ∧ ¬ l[i].foot ds

theorem DvsAt.turns {H H' : Heap} {b ds : Bk} {so : Nat} {l : List Dv} {r1 r2 r3 : V} (h : DvsAt H b ds so l r1 r2 r3) (k : Turns Z H H') : DvsAt H' b ds so l r1 r2 r3 :=
  ⟨(k.same _ h.old.1 id).trans h.own, (k.same _ h.old.2 id).trans h.ptrs, fun i hi => (h.dev i hi).turns k id id (fun _ => id), h.sep, ⟨h.old.1.mono k.next, h.old.2.mono k.next⟩, h.ne, h.out⟩

/-- one device turned -/
theorem DvsAt.step {H H' : Heap} {b ds : Bk} {so : Nat} {l : List Dv} {r1 r2 r3 : V} (h : DvsAt H b ds so l r1 r2 r3) {i : Nat} (hi : i < l.length) {y' : Lay} {D' : Dev} (k : Next H l[i].b l[i].y l[i].D H' y' D') : DvsAt H' b ds so (l.set i ⟨l[i].b, y', D'⟩) r1 r2 r3 := by
  have hb := (h.out i hi).1
  have hd := (h.out i hi).2
  have hnew : ∀ c, Foot l[i].b y' D' c → l[i].foot c ∨ ¬ H.Old c := by
    rintro c (rfl | rfl | ⟨hl, rfl⟩)
    · exact .inl (.inl rfl)
    · exact .inl (.inr (.inl k.s))
    · rcases k.l hl with ⟨h1, h2⟩ | h1
      · exact .inl (.inr (.inr ⟨h1, h2⟩))
      · exact .inr h1
  refine ⟨?_, ?_, fun j hj => ?_, fun p q hp hq hpq => ?_, ⟨h.old.1.mono k.turns.next, h.old.2.mono k.turns.next⟩, h.ne, fun j hj => ?_⟩
  · rw [List.length_set]; exact (k.turns.same _ h.old.1 hb).trans h.own
  · have e : ((l.set i ⟨l[i].b, y', D'⟩).map fun x => [V.ptr (some ⟨x.b, 0⟩)]) = l.map fun x => [V.ptr (some ⟨x.b, 0⟩)] := by
      rw [List.map_set]
      apply List.ext_getElem
      · simp
      · intro n h1 h2
        rw [List.getElem_set]
        split
        · rename_i e; subst e; simp
        · rfl
    rw [e]; exact (k.turns.same _ h.old.2 hd).trans h.ptrs
  · have hj' : j < l.length := by simpa using hj
    by_cases e : i = j
    · subst e
      rw [List.getElem_set_self]
      exact k.dev
    · rw [List.getElem_set_ne e]
      exact (h.sep i j hi hj' e).dev (h.dev j hj') k.turns
  · have hp' : p < l.length := by simpa using hp
    have hq' : q < l.length := by simpa using hq
    by_cases e1 : i = p
    · subst e1
      rw [List.getElem_set_self, List.getElem_set_ne hpq]
      exact (h.sep i q hi hq' hpq).next (h.dev q hq') k
    · by_cases e2 : i = q
      · subst e2
        rw [List.getElem_set_self, List.getElem_set_ne e1]
        exact ((h.sep i p hi hp' e1).next (h.dev p hp') k).symm
      · rw [List.getElem_set_ne e1, List.getElem_set_ne e2]
        exact h.sep p q hp' hq' hpq
  · have hj' : j < l.length := by simpa using hj
    by_cases e : i = j
    · subst e
      rw [List.getElem_set_self]
      refine ⟨fun hc => ?_, fun hc => ?_⟩
      · rcases hnew _ hc with hc | hc
        · exact hb hc
        · exact hc h.old.1
      · rcases hnew _ hc with hc | hc
        · exact hd hc
        · exact hc h.old.2
    · rw [List.getElem_set_ne e]
      exact h.out j hj'

/-- the bench's own numbers turned -/
theorem DvsAt.put {H : Heap} {b ds : Bk} {so : Nat} {l : List Dv} {r1 r2 r3 : V} (h : DvsAt H b ds so l r1 r2 r3) (r1' r2' r3' : V) : DvsAt (H.set b (.rows false 4 [[.slice (some ⟨ds, 0⟩) l.length l.length so, r1', r2', r3']])) b ds so l r1' r2' r3' := by
  refine ⟨?_, ?_, fun i hi => (h.dev i hi).turns (Turns.set (X := fun c => c = b) rfl _ _) (fun e => (h.out i hi).1 (.inl e.symm)) (fun e => (h.out i hi).1 (.inr (.inl e.symm))) (fun hl e => (h.out i hi).1 (.inr (.inr ⟨hl, e.symm⟩))), h.sep, by simpa using h.old, h.ne, h.out⟩
  · rw [Heap.get_set, if_pos rfl]
  · rw [Heap.get_set, if_neg (Ne.symm h.ne)]; exact h.ptrs

abbrev BenchAt (H : Heap) (b ds : Bk) (so : Nat) (l : List Dv) (st ar : Int) (dk : Bool) : Prop := DvsAt H b ds so l (.int .i64 st) (.int .i64 ar) (.bool dk)
theorem BenchAt.put {H : Heap} {b ds : Bk} {so : Nat} {l : List Dv} {st ar : Int} {dk : Bool} (h : BenchAt H b ds so l st ar dk) (st' ar' : Int) (dk' : Bool) : BenchAt (H.set b (.rows false 4 [[.slice (some ⟨ds, 0⟩) l.length l.length so, .int .i64 st', .int .i64 ar', .bool dk']])) b ds so l st' ar' dk' := DvsAt.put h _ _ _

section
variable {H : Heap} {b ds : Bk} {so : Nat} {l : List Dv} {st ar : Int} {dk : Bool} (h : BenchAt H b ds so l st ar dk)
include h
theorem bload0 : loadAt H ⟨b, 0⟩ 1 = some [.slice (some ⟨ds, 0⟩) l.length l.length so] := by rw [loadAt_eq h.own (by exact rfl)]; rfl
theorem bload1 : loadAt H ⟨b, 1⟩ 1 = some [.int .i64 st] := by rw [loadAt_eq h.own (by exact rfl)]; rfl
theorem bload2 : loadAt H ⟨b, 2⟩ 1 = some [.int .i64 ar] := by rw [loadAt_eq h.own (by exact rfl)]; rfl
theorem bload3 : loadAt H ⟨b, 3⟩ 1 = some [.bool dk] := by rw [loadAt_eq h.own (by exact rfl)]; rfl
theorem bloadP {i : Nat} (hi : i < l.length) : loadAt H ⟨ds, i⟩ 1 = some [.ptr (some ⟨l[i].b, 0⟩)] := by
  rw [loadAt_eq h.ptrs (r := [.ptr (some ⟨l[i].b, 0⟩)]) (nth_of (by rw [Nat.div_one]; simp [hi])), Nat.mod_one]
  exact cut_hit _ _ rfl
theorem bstore1 (x : Int) : storeAt H ⟨b, 1⟩ [.int .i64 x] = some (H.set b (.rows false 4 [[.slice (some ⟨ds, 0⟩) l.length l.length so, .int .i64 x, .int .i64 ar, .bool dk]])) := storeAt_eq h.own (r := [.slice (some ⟨ds, 0⟩) l.length l.length so, .int .i64 st, .int .i64 ar, .bool dk]) rfl rfl
theorem bstore2 (x : Int) : storeAt H ⟨b, 2⟩ [.int .i64 x] = some (H.set b (.rows false 4 [[.slice (some ⟨ds, 0⟩) l.length l.length so, .int .i64 st, .int .i64 x, .bool dk]])) := storeAt_eq h.own (r := [.slice (some ⟨ds, 0⟩) l.length l.length so, .int .i64 st, .int .i64 ar, .bool dk]) rfl rfl
theorem bstore3 (x : Bool) : storeAt H ⟨b, 3⟩ [.bool x] = some (H.set b (.rows false 4 [[.slice (some ⟨ds, 0⟩) l.length l.length so, .int .i64 st, .int .i64 ar, .bool x]])) := storeAt_eq h.own (r := [.slice (some ⟨ds, 0⟩) l.length l.length so, .int .i64 st, .int .i64 ar, .bool dk]) rfl rfl

theorem bnone (hl : l ≠ []) (lf m : Nat) : callS Tryz.prog S0 lf (m + 1) 60 [.ptr (some ⟨b, 0⟩)] H = some (.v (.bool false), H) := by
  have l0 := bload0 h
  obtain ⟨v, H', e, rfl, rfl⟩ : ret (callS Tryz.prog S0 lf (m + 1) 60 [.ptr (some ⟨b, 0⟩)] H) fun v H' => v = .bool false ∧ H' = H := by
    refine ret_call rfl c60_eq ?_
    simp only [c60, l0, sy, tup, ↓reduceIte, Nat.reduceEqDiff, Nat.reduceAdd, Nat.reduceSub, Nat.reduceMul, Nat.reduceDiv, Nat.reduceMod, Nat.reduceLeDiff, Int.reduceBEq, reduceCtorEq]
    simp [hl]
  exact e

theorem bhas {i : Nat} (hi : i < l.length) (lf m : Nat) : callS Tryz.prog S0 lf (m + 1) 108 [.ptr (some ⟨b, 0⟩), .int .i64 (i : Int)] H = some (.v (.bool true), H) := by
  have l0 := bload0 h
  have g0 : (0 : Int) ≤ (i : Int) := by omega
  obtain ⟨v, H', e, rfl, rfl⟩ : ret (callS Tryz.prog S0 lf (m + 1) 108 [.ptr (some ⟨b, 0⟩), .int .i64 (i : Int)] H) fun v H' => v = .bool true ∧ H' = H := by
    refine ret_call rfl c108_eq ?_
    simp only [c108, l0, g0, hi, sy, tup, ↓reduceIte, Nat.reduceEqDiff, Nat.reduceAdd, Nat.reduceSub, Nat.reduceMul, Nat.reduceDiv, Nat.reduceMod, Nat.reduceLeDiff, Int.reduceBEq, reduceCtorEq]
    simp
  exact e

theorem bthere {i : Nat} (hi : i < l.length) (lf m : Nat) : callS Tryz.prog S0 lf (m + 2) 56 [.ptr (some ⟨b, 0⟩), .int .i64 (i : Int)] H = some (.v (.int .i64 0), H) := by
  have e1 := bnone h (fun e => by rw [e] at hi; simp at hi) lf m
  have e2 := bhas h hi lf m
  obtain ⟨v, H', e, rfl, rfl⟩ : ret (callS Tryz.prog S0 lf (m + 2) 56 [.ptr (some ⟨b, 0⟩), .int .i64 (i : Int)] H) fun v H' => v = .int .i64 0 ∧ H' = H := by
    refine ret_call rfl c56_eq ?_
    simp only [c56, e1, e2, sy, tup, ↓reduceIte, Nat.reduceEqDiff, Nat.reduceAdd, Nat.reduceSub, Nat.reduceMul, Nat.reduceDiv, Nat.reduceMod, Nat.reduceLeDiff, Int.reduceBEq, reduceCtorEq]
    simp
  exact e

theorem blit {i : Nat} (hi : i < l.length) (hd : dk = false) (lf m : Nat) : callS Tryz.prog S0 lf (m + 3) 105 [.ptr (some ⟨b, 0⟩), .int .i64 (i : Int)] H = some (.v (.int .i64 0), H) := by
  subst hd
  have e1 := bnone h (fun e => by rw [e] at hi; simp at hi) lf (m + 1)
  have e2 := bthere h hi lf m
  have l3 := bload3 h
  change callS Tryz.prog S0 lf (m + 2) 60 [.ptr (some ⟨b, 0⟩)] H = _ at e1
  obtain ⟨v, H', e, rfl, rfl⟩ : ret (callS Tryz.prog S0 lf (m + 3) 105 [.ptr (some ⟨b, 0⟩), .int .i64 (i : Int)] H) fun v H' => v = .int .i64 0 ∧ H' = H := by
    refine ret_call rfl c105_eq ?_
    simp only [c105, e1, e2, l3, sy, tup, ↓reduceIte, Nat.reduceEqDiff, Nat.reduceAdd, Nat.reduceSub, Nat.reduceMul, Nat.reduceDiv, Nat.reduceMod, Nat.reduceLeDiff, Int.reduceBEq, reduceCtorEq]
    simp
  exact e

theorem blit_dark (hl : l ≠ []) (hd : dk = true) (d : Int) (lf m : Nat) : callS Tryz.prog S0 lf (m + 3) 105 [.ptr (some ⟨b, 0⟩), .int .i64 d] H = some (.v (.int .i64 8), H) := by
  subst hd
  have e1 := bnone h hl lf (m + 1)
  have l3 := bload3 h
  change callS Tryz.prog S0 lf (m + 2) 60 [.ptr (some ⟨b, 0⟩)] H = _ at e1
  obtain ⟨v, H', e, rfl, rfl⟩ : ret (callS Tryz.prog S0 lf (m + 3) 105 [.ptr (some ⟨b, 0⟩), .int .i64 d] H) fun v H' => v = .int .i64 8 ∧ H' = H := by
    refine ret_call rfl c105_eq ?_
    simp only [c105, e1, l3, sy, tup, ↓reduceIte, Nat.reduceEqDiff, Nat.reduceAdd, Nat.reduceSub, Nat.reduceMul, Nat.reduceDiv, Nat.reduceMod, Nat.reduceLeDiff, Int.reduceBEq, reduceCtorEq]
    simp
  exact e

theorem bdark (hl : l ≠ []) (lf m : Nat) : callS Tryz.prog S0 lf (m + 2) 64 [.ptr (some ⟨b, 0⟩)] H = some (.v (.bool dk), H) := by
  have e1 := bnone h hl lf m
  have l3 := bload3 h
  obtain ⟨v, H', e, rfl, rfl⟩ : ret (callS Tryz.prog S0 lf (m + 2) 64 [.ptr (some ⟨b, 0⟩)] H) fun v H' => v = .bool dk ∧ H' = H := by
    refine ret_call rfl c64_eq ?_
    simp only [c64, e1, l3, sy, tup, ↓reduceIte, Nat.reduceEqDiff, Nat.reduceAdd, Nat.reduceSub, Nat.reduceMul, Nat.reduceDiv, Nat.reduceMod, Nat.reduceLeDiff, Int.reduceBEq, reduceCtorEq]
    simp
  exact e

theorem bsteps (hl : l ≠ []) (lf m : Nat) : callS Tryz.prog S0 lf (m + 2) 30 [.ptr (some ⟨b, 0⟩)] H = some (.v (.int .i64 st), H) := by
  have e1 := bnone h hl lf m
  have l1 := bload1 h
  obtain ⟨v, H', e, rfl, rfl⟩ : ret (callS Tryz.prog S0 lf (m + 2) 30 [.ptr (some ⟨b, 0⟩)] H) fun v H' => v = .int .i64 st ∧ H' = H := by
    refine ret_call rfl c30_eq ?_
    simp only [c30, e1, l1, sy, tup, ↓reduceIte, Nat.reduceEqDiff, Nat.reduceAdd, Nat.reduceSub, Nat.reduceMul, Nat.reduceDiv, Nat.reduceMod, Nat.reduceLeDiff, Int.reduceBEq, reduceCtorEq]
    simp
  exact e

theorem barm (hl : l ≠ []) (hd : dk = false) {x : Int} (hx : 0 ≤ x) (lf m : Nat) : callS Tryz.prog S0 lf (m + 2) 13 [.ptr (some ⟨b, 0⟩), .int .i64 x] H = some (.v (.int .i64 0), H.set b (.rows false 4 [[.slice (some ⟨ds, 0⟩) l.length l.length so, .int .i64 st, .int .i64 x, .bool dk]])) := by
  subst hd
  have e1 := bnone h hl lf m
  have l3 := bload3 h
  have s2 := bstore2 h x
  have hx' : ¬ (x < 0) := by omega
  obtain ⟨v, H', e, rfl, rfl⟩ : ret (callS Tryz.prog S0 lf (m + 2) 13 [.ptr (some ⟨b, 0⟩), .int .i64 x] H) fun v H' => v = .int .i64 0 ∧ H' = H.set b (.rows false 4 [[.slice (some ⟨ds, 0⟩) l.length l.length so, .int .i64 st, .int .i64 x, .bool false]]) := by
    refine ret_call rfl c13_eq ?_
    simp only [c13, e1, l3, s2, hx', sy, tup, ↓reduceIte, Nat.reduceEqDiff, Nat.reduceAdd, Nat.reduceSub, Nat.reduceMul, Nat.reduceDiv, Nat.reduceMod, Nat.reduceLeDiff, Int.reduceBEq, reduceCtorEq]
    simp
  exact e

theorem barm_dark (hl : l ≠ []) (hd : dk = true) (x : Int) (lf m : Nat) : callS Tryz.prog S0 lf (m + 2) 13 [.ptr (some ⟨b, 0⟩), .int .i64 x] H = some (.v (.int .i64 8), H) := by
  subst hd
  have e1 := bnone h hl lf m
  have l3 := bload3 h
  obtain ⟨v, H', e, rfl, rfl⟩ : ret (callS Tryz.prog S0 lf (m + 2) 13 [.ptr (some ⟨b, 0⟩), .int .i64 x] H) fun v H' => v = .int .i64 8 ∧ H' = H := by
    refine ret_call rfl c13_eq ?_
    simp only [c13, e1, l3, sy, tup, ↓reduceIte, Nat.reduceEqDiff, Nat.reduceAdd, Nat.reduceSub, Nat.reduceMul, Nat.reduceDiv, Nat.reduceMod, Nat.reduceLeDiff, Int.reduceBEq, reduceCtorEq]
    simp
  exact e

theorem bread {i : Nat} (hi : i < l.length) (hd : dk = false) (n : Int) {lf : Nat} (hS : l[i].D.S ≠ []) (hlf : l[i].D.L.length + 1 < lf) (hmax : l[i].D.L.length < 1000000) (m : Nat) :
    ret (callS Tryz.prog S0 lf (m + 4) 48 [.ptr (some ⟨b, 0⟩), .int .i64 (i : Int), .int .i64 n] H) fun v H' => v = .tuple [.blk (l[i].D.read n), .int .i64 (code l[i].D n)] ∧ Turns Z H H' := by
  have t1 := Turns.add Z H (.rows false 64 [[.blk 0]])
  have h' := h.turns t1
  have e1 := blit h' hi hd lf m
  have l0 := bload0 h'
  have lp := bloadP h' hi
  have hi1 : i + 1 ≤ l.length := hi
  obtain ⟨v, H1, e2, rfl, t2⟩ := read_all (h'.dev i hi) hS hlf hmax n m
  have g0 : H1.get (.run H.next) = some (.rows false 64 [[.blk 0]]) := by
    rw [t2.same _ (by show _ < _; simp) id, Heap.get_add, if_pos rfl]
  have st := cell_store (v := l[i].D.read n) g0
  refine ret_call rfl c48_eq ?_
  simp only [c48, e1, l0, lp, hi1, e2, st, Nat.mul_one, sy, tup, ↓reduceIte, Nat.reduceEqDiff, Nat.reduceAdd, Nat.reduceSub, Nat.reduceMul, Nat.reduceDiv, Nat.reduceMod, Nat.reduceLeDiff, Int.reduceBEq, reduceCtorEq]
  exact ⟨trivial, .inr trivial, _, rfl, rfl, (t1.trans t2).setnew (Nat.le_refl _) _⟩

theorem bread_dark (hl : l ≠ []) (hd : dk = true) (d n : Int) (lf m : Nat) :
    ret (callS Tryz.prog S0 lf (m + 4) 48 [.ptr (some ⟨b, 0⟩), .int .i64 d, .int .i64 n] H) fun v H' => v = .tuple [.blk 0, .int .i64 8] ∧ Turns Z H H' := by
  have t1 := Turns.add Z H (.rows false 64 [[.blk 0]])
  have h' := h.turns t1
  have e1 := blit_dark h' hl hd d lf m
  refine ret_call rfl c48_eq ?_
  simp only [c48, e1, sy, tup, ↓reduceIte, Nat.reduceEqDiff, Nat.reduceAdd, Nat.reduceSub, Nat.reduceMul, Nat.reduceDiv, Nat.reduceMod, Nat.reduceLeDiff, Int.reduceBEq, reduceCtorEq]
  exact ⟨trivial, .inr trivial, _, rfl, rfl, t1.setnew (Nat.le_refl _) _⟩
end

end Go.Proofs.YtpmdbbdidafehaaGreat.disk


/-
  A bench in the machine's heap: a step; writing, flushing.
-/
set_option linter.unusedVariables false
set_option linter.unusedSimpArgs false
set_option maxRecDepth 10000
namespace Go.Proofs.YtpmdbbdidafehaaGreat.disk
open Go.Am

theorem load1_of {H : Heap} {c : Bk} {x : V} (h : H.get c = some (.rows false 1 [[x]])) (hx : x.asBlk = none) : loadAt H ⟨c, 0⟩ 1 = some [x] := by
  rw [loadAt_eq h (r := [x]) rfl]; exact cut_hit _ _ hx

def arLess (ar : Int) : Int := if ar = 0 then 0 else ar - 1

theorem bstep_cut {H : Heap} {b ds : Bk} {so : Nat} {l : List Dv} {st : Int} {dk : Bool} (h : BenchAt H b ds so l st 1 dk) (f : V) (lf m : Nat) :
    callS Tryz.prog S0 lf (m + 1) 49 [.ptr (some ⟨b, 0⟩), f] H = some (.v (.int .i64 8), H.set b (.rows false 4 [[.slice (some ⟨ds, 0⟩) l.length l.length so, .int .i64 st, .int .i64 1, .bool true]])) := by
  have l2 := bload2 h
  have s3 := bstore3 h true
  obtain ⟨v, H', e, rfl, rfl⟩ : ret (callS Tryz.prog S0 lf (m + 1) 49 [.ptr (some ⟨b, 0⟩), f] H) fun v H' => v = .int .i64 8 ∧ H' = H.set b (.rows false 4 [[.slice (some ⟨ds, 0⟩) l.length l.length so, .int .i64 st, .int .i64 1, .bool true]]) := by
    refine ret_call rfl c49_eq ?_
    simp only [c49, l2, s3, sy, tup, ↓reduceIte, Nat.reduceEqDiff, Nat.reduceAdd, Nat.reduceSub, Nat.reduceMul, Nat.reduceDiv, Nat.reduceMod, Nat.reduceLeDiff, Int.reduceBEq, reduceCtorEq]
    simp
  exact e

theorem bstep_go {H : Heap} {b ds : Bk} {so : Nat} {l : List Dv} {st ar : Int} {dk : Bool} (h : BenchAt H b ds so l st ar dk) (h1 : ar ≠ 1) (ha : 0 ≤ ar ∧ ar ≤ 9223372036854775807) (hs : 0 ≤ st ∧ st ≤ 100000) (lf m : Nat) :
    ∃ H1, BenchAt H1 b ds so l (st + 1) (arLess ar) dk ∧ Turns (fun c => c = b) H H1 ∧ ∀ id first cap v H', callS Tryz.prog S0 lf m id (first ++ cap) H1 = some (.v v, H') → callS Tryz.prog S0 lf (m + 1) 49 [.ptr (some ⟨b, 0⟩), .func (.func id) first cap] H = some (.v v, H') := by
  have l2 := bload2 h
  have z1 : (ar == 1) = false := by simp; exact h1
  have w1 : IntKind.i64.wrap (st + 1) = st + 1 := wrap_i64 (by omega)
  by_cases h0 : ar = 0
  · subst h0
    have l1 := bload1 h
    have s1 := bstore1 h (st + 1)
    refine ⟨_, h.put (st + 1) 0 dk, Turns.set (X := fun c => c = b) rfl _ _, fun id first cap v H' e => ?_⟩
    obtain ⟨v', H'', e', rfl, rfl⟩ : ret (callS Tryz.prog S0 lf (m + 1) 49 [.ptr (some ⟨b, 0⟩), .func (.func id) first cap] H) fun v' H'' => v' = v ∧ H'' = H' := by
      refine ret_call rfl c49_eq ?_
      simp only [c49, l2, l1, s1, w1, e, sy, tup, ↓reduceIte, Nat.reduceEqDiff, Nat.reduceAdd, Nat.reduceSub, Nat.reduceMul, Nat.reduceDiv, Nat.reduceMod, Nat.reduceLeDiff, Int.reduceBEq, reduceCtorEq]
      simp
    exact e'
  · have z0 : (ar == 0) = false := by simp; exact h0
    have w2 : IntKind.i64.wrap (ar - 1) = ar - 1 := wrap_i64 (by omega)
    have s2 := bstore2 h (ar - 1)
    have hm := h.put st (ar - 1) dk
    have l1 := bload1 hm
    have s1 := bstore1 hm (st + 1)
    have hal : arLess ar = ar - 1 := if_neg h0
    refine ⟨_, by rw [hal]; exact hm.put (st + 1) (ar - 1) dk, (Turns.set (X := fun c => c = b) rfl _ _).setm rfl _, fun id first cap v H' e => ?_⟩
    obtain ⟨v', H'', e', rfl, rfl⟩ : ret (callS Tryz.prog S0 lf (m + 1) 49 [.ptr (some ⟨b, 0⟩), .func (.func id) first cap] H) fun v' H'' => v' = v ∧ H'' = H' := by
      refine ret_call rfl c49_eq ?_
      simp only [c49, l2, z0, z1, w2, s2, l1, s1, w1, e, sy, tup, ↓reduceIte, Nat.reduceEqDiff, Nat.reduceAdd, Nat.reduceSub, Nat.reduceMul, Nat.reduceDiv, Nat.reduceMod, Nat.reduceLeDiff, Int.reduceBEq, reduceCtorEq]
      simp
    exact e'

theorem wclos {K : Heap} {b ds : Bk} {so : Nat} {l : List Dv} {st ar : Int} {dk : Bool} (h : BenchAt K b ds so l st ar dk) {i : Nat} (hi : i < l.length) (hS : l[i].D.S ≠ []) (hmax : l[i].D.L.length < 1000000) (n : Int) (B : Nat) {c0 c1 c2 c3 : Bk}
    (g0 : K.get c0 = some (.rows false 1 [[.ptr (some ⟨b, 0⟩)]])) (g1 : K.get c1 = some (.rows false 1 [[.int .i64 (i : Int)]])) (g2 : K.get c2 = some (.rows false 1 [[.int .i64 n]])) (g3 : K.get c3 = some (.rows false 64 [[.blk B]])) (lf m : Nat) :
    ret (callS Tryz.prog S0 lf (m + 4) 50 [.ptr (some ⟨c0, 0⟩), .ptr (some ⟨c1, 0⟩), .ptr (some ⟨c2, 0⟩), .ptr (some ⟨c3, 0⟩)] K) fun v H' => v = .int .i64 (code l[i].D n) ∧ ∃ y', Next K l[i].b l[i].y l[i].D H' y' (l[i].D.write n B) := by
  have d0 := load1_of g0 rfl
  have d1 := load1_of g1 rfl
  have d2 := load1_of g2 rfl
  have d3 := load_of g3
  have l0 := bload0 h
  have lp := bloadP h hi
  have hi1 : i + 1 ≤ l.length := hi
  obtain ⟨v, H1, e, rfl, y', hN⟩ := write_all (h.dev i hi) hS hmax n B lf m
  refine ret_call rfl c50_eq ?_
  simp only [c50, d0, d1, d2, d3, l0, lp, hi1, e, Nat.mul_one, sy, tup, ↓reduceIte, Nat.reduceEqDiff, Nat.reduceAdd, Nat.reduceSub, Nat.reduceMul, Nat.reduceDiv, Nat.reduceMod, Nat.reduceLeDiff, Int.reduceBEq, reduceCtorEq]
  rw [endD_ok (by kernel_rfl) (by kernel_rfl)]
  simp only [sy, tup, ↓reduceIte, Nat.reduceEqDiff, Nat.reduceAdd, Nat.reduceSub, Nat.reduceMul, Nat.reduceDiv, Nat.reduceMod, Nat.reduceLeDiff, Int.reduceBEq, reduceCtorEq]
  exact ⟨trivial, .inr trivial, _, rfl, rfl, y', hN⟩

/-- what a step of a device did to the bench -/
structure Did (H : Heap) (b ds : Bk) (so : Nat) (l : List Dv) (st ar : Int) (i : Nat) (hi : i < l.length) (D' : Dev) (H' : Heap) (y' : Lay) : Prop where
  at' : BenchAt H' b ds so (l.set i ⟨l[i].b, y', D'⟩) (st + 1) (arLess ar) false
  turns : Turns (fun c => c = b ∨ l[i].foot c) H H'
  foot : ∀ c, Foot l[i].b y' D' c → l[i].foot c ∨ ¬ H.Old c

theorem did_of {H H1 H2 H' : Heap} {b ds : Bk} {so : Nat} {l : List Dv} {st ar : Int} {i : Nat} {hi : i < l.length} (t : Turns Z H H1) (h2 : BenchAt H2 b ds so l (st + 1) (arLess ar) false) (t2 : Turns (fun c => c = b) H1 H2) {y' : Lay} {D' : Dev} (hN : Next H2 l[i].b l[i].y l[i].D H' y' D') : Did H b ds so l st ar i hi D' H' y' := by
  refine ⟨h2.step hi hN, ?_, fun c hc => ?_⟩
  · exact ((t.wide (fun c hc => hc.elim)).trans (t2.wide (fun c hc => .inl hc))).trans (hN.turns.wide (fun c hc => .inr hc))
  · have hn := t.next
    have hn2 := t2.next
    rcases hc with rfl | rfl | ⟨hl, rfl⟩
    · exact .inl (.inl rfl)
    · exact .inl (.inr (.inl hN.s))
    · rcases hN.l hl with ⟨k1, k2⟩ | k1
      · exact .inl (.inr (.inr ⟨k1, k2⟩))
      · exact .inr (fun o => k1 ((o.mono hn).mono hn2))

theorem bwrite {H : Heap} {b ds : Bk} {so : Nat} {l : List Dv} {st ar : Int} (h : BenchAt H b ds so l st ar false) (ha : 0 ≤ ar ∧ ar ≤ 9223372036854775807) (hs : 0 ≤ st ∧ st ≤ 100000) {i : Nat} (hi : i < l.length) (n : Int) (B : Nat) {lf : Nat} (hS : l[i].D.S ≠ []) (hlf : l[i].D.L.length + 1 < lf) (hmax : l[i].D.L.length < 1000000) (hc : code l[i].D n = 0) (m : Nat) :
    ret (callS Tryz.prog S0 lf (m + 6) 9 [.ptr (some ⟨b, 0⟩), .int .i64 (i : Int), .int .i64 n, .blk B] H) fun v H' => (ar = 1 ∧ v = .int .i64 8 ∧ BenchAt H' b ds so l st 1 true ∧ Turns (fun c => c = b) H H') ∨ (ar ≠ 1 ∧ v = .int .i64 0 ∧ ∃ y', Did H b ds so l st ar i hi (l[i].D.write n B) H' y') := by
  have hT4 : Turns Z H ((((H.add (.rows false 1 [[.ptr (some ⟨b, 0⟩)]])).add (.rows false 1 [[.int .i64 (i : Int)]])).add (.rows false 1 [[.int .i64 n]])).add (.rows false 64 [[.blk B]])) := ((((Turns.refl Z H).addm _).addm _).addm _).addm _
  have g0 : ((((H.add (.rows false 1 [[.ptr (some ⟨b, 0⟩)]])).add (.rows false 1 [[.int .i64 (i : Int)]])).add (.rows false 1 [[.int .i64 n]])).add (.rows false 64 [[.blk B]])).get (.run H.next) = some (.rows false 1 [[.ptr (some ⟨b, 0⟩)]]) := by
    rw [Heap.get_add, if_neg (by simp <;> omega), Heap.get_add, if_neg (by simp <;> omega), Heap.get_add, if_neg (by simp <;> omega), Heap.get_add, if_pos rfl]
  have g1 : ((((H.add (.rows false 1 [[.ptr (some ⟨b, 0⟩)]])).add (.rows false 1 [[.int .i64 (i : Int)]])).add (.rows false 1 [[.int .i64 n]])).add (.rows false 64 [[.blk B]])).get (.run (H.next + 1)) = some (.rows false 1 [[.int .i64 (i : Int)]]) := by
    rw [Heap.get_add, if_neg (by simp <;> omega), Heap.get_add, if_neg (by simp <;> omega), Heap.get_add, if_pos (by simp)]
  have g2 : ((((H.add (.rows false 1 [[.ptr (some ⟨b, 0⟩)]])).add (.rows false 1 [[.int .i64 (i : Int)]])).add (.rows false 1 [[.int .i64 n]])).add (.rows false 64 [[.blk B]])).get (.run (H.next + 1 + 1)) = some (.rows false 1 [[.int .i64 n]]) := by
    rw [Heap.get_add, if_neg (by simp <;> omega), Heap.get_add, if_pos (by simp)]
  have g3 : ((((H.add (.rows false 1 [[.ptr (some ⟨b, 0⟩)]])).add (.rows false 1 [[.int .i64 (i : Int)]])).add (.rows false 1 [[.int .i64 n]])).add (.rows false 64 [[.blk B]])).get (.run (H.next + 1 + 1 + 1)) = some (.rows false 64 [[.blk B]]) := by
    rw [Heap.get_add, if_pos (by simp)]
  have n4 : ((((H.add (.rows false 1 [[.ptr (some ⟨b, 0⟩)]])).add (.rows false 1 [[.int .i64 (i : Int)]])).add (.rows false 1 [[.int .i64 n]])).add (.rows false 64 [[.blk B]])).next = H.next + 4 := rfl
  generalize hH4 : ((((H.add (.rows false 1 [[.ptr (some ⟨b, 0⟩)]])).add (.rows false 1 [[.int .i64 (i : Int)]])).add (.rows false 1 [[.int .i64 n]])).add (.rows false 64 [[.blk B]])) = H4 at hT4 g0 g1 g2 g3 n4
  have h4 := h.turns hT4
  have o0 : H4.Old (.run H.next) := by show _ < _; omega
  have o1 : H4.Old (.run (H.next + 1)) := by show _ < _; omega
  have o2 : H4.Old (.run (H.next + 1 + 1)) := by show _ < _; omega
  have o3 : H4.Old (.run (H.next + 1 + 1 + 1)) := by show _ < _; omega
  have d0 := load1_of g0 rfl
  have d1 := load1_of g1 rfl
  have d2 := load1_of g2 rfl
  obtain ⟨v1, K1, e1, rfl, t1⟩ := bread h4 hi rfl n hS hlf hmax (m + 1)
  rw [hc] at e1
  change callS Tryz.prog S0 lf (m + 5) 48 [.ptr (some ⟨b, 0⟩), .int .i64 (i : Int), .int .i64 n] H4 = _ at e1
  generalize l[i].D.read n = X at e1
  have t5 := t1.trans (cell_turns K1 X)
  have h5 := h4.turns t5
  have d0' := load1_of ((t5.same _ o0 id).trans g0) rfl
  have hT5 := hT4.trans t5
  by_cases h1 : ar = 1
  · subst h1
    have e2 := bstep_cut h5 (.func (.func 50) [] [.ptr (some ⟨.run H.next, 0⟩), .ptr (some ⟨.run (H.next + 1), 0⟩), .ptr (some ⟨.run (H.next + 1 + 1), 0⟩), .ptr (some ⟨.run (H.next + 1 + 1 + 1), 0⟩)]) lf (m + 4)
    change callS Tryz.prog S0 lf (m + 5) 49 _ _ = _ at e2
    refine ret_call rfl c9_eq ?_
    simp only [c9, sy, tup, ↓reduceIte, Nat.reduceEqDiff, Nat.reduceAdd, Nat.reduceSub, Nat.reduceMul, Nat.reduceDiv, Nat.reduceMod, Nat.reduceLeDiff, Int.reduceBEq, reduceCtorEq]
    rw [hH4]
    simp only [d0, d1, d2, e1, cell_fold, d0', e2, mkfnF, sy, tup, ↓reduceIte, Nat.reduceEqDiff, Nat.reduceAdd, Nat.reduceSub, Nat.reduceMul, Nat.reduceDiv, Nat.reduceMod, Nat.reduceLeDiff, Int.reduceBEq, reduceCtorEq]
    exact ⟨trivial, .inr trivial, _, rfl, .inl ⟨trivial, rfl, BenchAt.put h5 st 1 true, Turns.setm (X := fun c => c = b) (b := b) (hT5.wide (fun c hc => hc.elim)) rfl _⟩⟩
  · obtain ⟨H6, h6, t6, hrun⟩ := bstep_go h5 h1 ha hs lf (m + 4)
    have ne : ∀ c, H4.Old c → ¬ H.Old c → c ≠ b := fun c _ hno e => hno (by rw [e]; exact h.old.1)
    have get6 : ∀ c o, H4.Old c → ¬ H.Old c → H4.get c = some o → H6.get c = some o := fun c o ho hno hg => (t6.same c (ho.mono t5.next) (ne c ho hno)).trans ((t5.same c ho id).trans hg)
    obtain ⟨v7, H7, e7, rfl, y', hN⟩ := wclos h6 hi hS hmax n B (get6 _ _ o0 (Heap.not_old (by omega)) g0) (get6 _ _ o1 (Heap.not_old (by omega)) g1) (get6 _ _ o2 (Heap.not_old (by omega)) g2) (get6 _ _ o3 (Heap.not_old (by omega)) g3) lf m
    rw [hc] at e7
    have e2 := hrun 50 [] [.ptr (some ⟨.run H.next, 0⟩), .ptr (some ⟨.run (H.next + 1), 0⟩), .ptr (some ⟨.run (H.next + 1 + 1), 0⟩), .ptr (some ⟨.run (H.next + 1 + 1 + 1), 0⟩)] _ _ e7
    change callS Tryz.prog S0 lf (m + 5) 49 _ _ = _ at e2
    refine ret_call rfl c9_eq ?_
    simp only [c9, sy, tup, ↓reduceIte, Nat.reduceEqDiff, Nat.reduceAdd, Nat.reduceSub, Nat.reduceMul, Nat.reduceDiv, Nat.reduceMod, Nat.reduceLeDiff, Int.reduceBEq, reduceCtorEq]
    rw [hH4]
    simp only [d0, d1, d2, e1, cell_fold, d0', e2, mkfnF, sy, tup, ↓reduceIte, Nat.reduceEqDiff, Nat.reduceAdd, Nat.reduceSub, Nat.reduceMul, Nat.reduceDiv, Nat.reduceMod, Nat.reduceLeDiff, Int.reduceBEq, reduceCtorEq]
    exact ⟨trivial, .inr trivial, _, rfl, .inr ⟨h1, rfl, y', did_of hT5 h6 t6 hN⟩⟩

theorem bwrite_dark {H : Heap} {b ds : Bk} {so : Nat} {l : List Dv} {st ar : Int} (h : BenchAt H b ds so l st ar true) (hl : l ≠ []) (d n : Int) (B : Nat) (lf m : Nat) :
    ret (callS Tryz.prog S0 lf (m + 6) 9 [.ptr (some ⟨b, 0⟩), .int .i64 d, .int .i64 n, .blk B] H) fun v H' => v = .int .i64 8 ∧ Turns Z H H' := by
  have hT4 : Turns Z H ((((H.add (.rows false 1 [[.ptr (some ⟨b, 0⟩)]])).add (.rows false 1 [[.int .i64 d]])).add (.rows false 1 [[.int .i64 n]])).add (.rows false 64 [[.blk B]])) := ((((Turns.refl Z H).addm _).addm _).addm _).addm _
  have g0 : ((((H.add (.rows false 1 [[.ptr (some ⟨b, 0⟩)]])).add (.rows false 1 [[.int .i64 d]])).add (.rows false 1 [[.int .i64 n]])).add (.rows false 64 [[.blk B]])).get (.run H.next) = some (.rows false 1 [[.ptr (some ⟨b, 0⟩)]]) := by
    rw [Heap.get_add, if_neg (by simp <;> omega), Heap.get_add, if_neg (by simp <;> omega), Heap.get_add, if_neg (by simp <;> omega), Heap.get_add, if_pos rfl]
  have g1 : ((((H.add (.rows false 1 [[.ptr (some ⟨b, 0⟩)]])).add (.rows false 1 [[.int .i64 d]])).add (.rows false 1 [[.int .i64 n]])).add (.rows false 64 [[.blk B]])).get (.run (H.next + 1)) = some (.rows false 1 [[.int .i64 d]]) := by
    rw [Heap.get_add, if_neg (by simp <;> omega), Heap.get_add, if_neg (by simp <;> omega), Heap.get_add, if_pos (by simp)]
  have g2 : ((((H.add (.rows false 1 [[.ptr (some ⟨b, 0⟩)]])).add (.rows false 1 [[.int .i64 d]])).add (.rows false 1 [[.int .i64 n]])).add (.rows false 64 [[.blk B]])).get (.run (H.next + 1 + 1)) = some (.rows false 1 [[.int .i64 n]]) := by
    rw [Heap.get_add, if_neg (by simp <;> omega), Heap.get_add, if_pos (by simp)]
  generalize hH4 : ((((H.add (.rows false 1 [[.ptr (some ⟨b, 0⟩)]])).add (.rows false 1 [[.int .i64 d]])).add (.rows false 1 [[.int .i64 n]])).add (.rows false 64 [[.blk B]])) = H4 at hT4 g0 g1 g2
  have d0 := load1_of g0 rfl
  have d1 := load1_of g1 rfl
  have d2 := load1_of g2 rfl
  obtain ⟨v1, K1, e1, rfl, t1⟩ := bread_dark (h.turns hT4) hl rfl d n lf (m + 1)
  change callS Tryz.prog S0 lf (m + 5) 48 [.ptr (some ⟨b, 0⟩), .int .i64 d, .int .i64 n] H4 = _ at e1
  refine ret_call rfl c9_eq ?_
  simp only [c9, sy, tup, ↓reduceIte, Nat.reduceEqDiff, Nat.reduceAdd, Nat.reduceSub, Nat.reduceMul, Nat.reduceDiv, Nat.reduceMod, Nat.reduceLeDiff, Int.reduceBEq, reduceCtorEq]
  rw [hH4]
  simp only [d0, d1, d2, e1, cell_fold, sy, tup, ↓reduceIte, Nat.reduceEqDiff, Nat.reduceAdd, Nat.reduceSub, Nat.reduceMul, Nat.reduceDiv, Nat.reduceMod, Nat.reduceLeDiff, Int.reduceBEq, reduceCtorEq]
  exact ⟨trivial, .inr trivial, _, rfl, rfl, (hT4.trans t1).trans (cell_turns K1 0)⟩

theorem bflush {H : Heap} {b ds : Bk} {so : Nat} {l : List Dv} {st ar : Int} (h : BenchAt H b ds so l st ar false) (ha : 0 ≤ ar ∧ ar ≤ 9223372036854775807) (hs : 0 ≤ st ∧ st ≤ 100000) {i : Nat} (hi : i < l.length) {lf : Nat} (hS : l[i].D.S ≠ []) (hok : ∀ w ∈ l[i].D.L, w.1 < l[i].D.S.length) (hlf : l[i].D.L.length + 1 < lf) (hmax : l[i].D.L.length < 1000000) (hd : l[i].D.dead = false) (m : Nat) :
    ret (callS Tryz.prog S0 lf (m + 5) 15 [.ptr (some ⟨b, 0⟩), .int .i64 (i : Int)] H) fun v H' => (ar = 1 ∧ v = .int .i64 8 ∧ BenchAt H' b ds so l st 1 true ∧ Turns (fun c => c = b) H H') ∨ (ar ≠ 1 ∧ v = .int .i64 0 ∧ ∃ y', Did H b ds so l st ar i hi l[i].D.flush H' y') := by
  have hpos : 0 < l[i].D.S.length := by
    cases hc : l[i].D.S with
    | nil => exact absurd hc hS
    | cons x xs => simp
  have hc : code l[i].D 0 = 0 := code_ok (by omega) hd
  have hfc : fcode l[i].D = 0 := by unfold fcode; rw [hd]; rfl
  obtain ⟨v1, K1, e1, rfl, t1⟩ := bread h hi rfl 0 hS hlf hmax m
  rw [hc] at e1
  generalize l[i].D.read 0 = X at e1
  have t5 := t1.trans (cell_turns K1 X)
  have h5 := h.turns t5
  have l0 := bload0 h5
  have lp := bloadP h5 hi
  have hi1 : i + 1 ≤ l.length := hi
  by_cases h1 : ar = 1
  · subst h1
    have e2 := bstep_cut h5 (.func (.func 61) [.ptr (some ⟨l[i].b, 0⟩)] []) lf (m + 3)
    change callS Tryz.prog S0 lf (m + 4) 49 _ _ = _ at e2
    refine ret_call rfl c15_eq ?_
    simp only [c15, e1, cell_fold, l0, lp, hi1, e2, mkfnF, Nat.mul_one, sy, tup, ↓reduceIte, Nat.reduceEqDiff, Nat.reduceAdd, Nat.reduceSub, Nat.reduceMul, Nat.reduceDiv, Nat.reduceMod, Nat.reduceLeDiff, Int.reduceBEq, reduceCtorEq]
    exact ⟨trivial, .inr trivial, _, rfl, .inl ⟨trivial, rfl, BenchAt.put h5 st 1 true, Turns.setm (X := fun c => c = b) (b := b) (t5.wide (fun c hc => hc.elim)) rfl _⟩⟩
  · obtain ⟨H6, h6, t6, hrun⟩ := bstep_go h5 h1 ha hs lf (m + 3)
    obtain ⟨v7, H7, e7, rfl, y', hN⟩ := flush_all (h6.dev i hi) hS hok hmax hlf m
    rw [hfc] at e7
    have e2 := hrun 61 [.ptr (some ⟨l[i].b, 0⟩)] [] _ _ e7
    change callS Tryz.prog S0 lf (m + 4) 49 _ _ = _ at e2
    refine ret_call rfl c15_eq ?_
    simp only [c15, e1, cell_fold, l0, lp, hi1, e2, mkfnF, Nat.mul_one, sy, tup, ↓reduceIte, Nat.reduceEqDiff, Nat.reduceAdd, Nat.reduceSub, Nat.reduceMul, Nat.reduceDiv, Nat.reduceMod, Nat.reduceLeDiff, Int.reduceBEq, reduceCtorEq]
    exact ⟨trivial, .inr trivial, _, rfl, .inr ⟨h1, rfl, y', did_of t5 h6 t6 hN⟩⟩

theorem bflush_dark {H : Heap} {b ds : Bk} {so : Nat} {l : List Dv} {st ar : Int} (h : BenchAt H b ds so l st ar true) (hl : l ≠ []) (d : Int) (lf m : Nat) :
    ret (callS Tryz.prog S0 lf (m + 5) 15 [.ptr (some ⟨b, 0⟩), .int .i64 d] H) fun v H' => v = .int .i64 8 ∧ Turns Z H H' := by
  obtain ⟨v1, K1, e1, rfl, t1⟩ := bread_dark h hl rfl d 0 lf m
  refine ret_call rfl c15_eq ?_
  simp only [c15, e1, cell_fold, sy, tup, ↓reduceIte, Nat.reduceEqDiff, Nat.reduceAdd, Nat.reduceSub, Nat.reduceMul, Nat.reduceDiv, Nat.reduceMod, Nat.reduceLeDiff, Int.reduceBEq, reduceCtorEq]
  exact ⟨trivial, .inr trivial, _, rfl, rfl, t1.trans (cell_turns K1 0)⟩

end Go.Proofs.YtpmdbbdidafehaaGreat.disk


/-
  A bench in the machine's heap: whatever is asked of whatever device.
-/
set_option linter.unusedVariables false
set_option linter.unusedSectionVars false
set_option linter.unusedSimpArgs false
set_option maxRecDepth 10000
namespace Go.Proofs.YtpmdbbdidafehaaGreat.disk
open Go.Am

/-- (*ashlar/bench.Bench).Fail -/
noncomputable def c11 : CFn := ⟨[.tmp (pp 4)],
 .seq (.reg [
 qo 4 (.p (S.get (ii 0))) []]) (
 .seq (.seq (.reg [
 mv 6 0,
 mv 7 1,
 qo 8 (.c (callF (ff 56) [(tt 6), (tt 7)])) [pp 6, pp 7],
 mv 5 8]) (
 .seq (.reg [
 mv 9 5,
 qo 10 (.p (eqcF true false [.int .i64] (tt 9) (ii 0))) [pp 9]]) (
 .cond (tt 10) (.seq (.reg [
 mv 11 5,
 mv 4 11]) (
 .ret)) (.skip)))) (
 .seq (.reg [
 mv 12 0,
 qo 13 (.p (nilcF (tt 12))) [pp 12],
 qo 14 (.p (faddrF (tt 13) 0)) [pp 13],
 qo 15 (.r (loadF (tt 14) 1 .sc)) [pp 14],
 mv 16 1,
 qo 17 (.p (iaddrSF (tt 15) (tt 16) 1)) [pp 15, pp 16],
 qo 18 (.r (loadF (tt 17) 1 .sc)) [pp 17],
 qo 19 (.c (callF (ff 57) [(tt 18)])) [pp 18],
 mv 4 19]) (
 .ret)))⟩
theorem c11_eq : fnOf Tryz.prog 11 = some c11 := by kernel_rfl

/-- (*ashlar/bench.Bench).Sectors -/
noncomputable def c76 : CFn := ⟨[.tmp (pp 4)],
 .seq (.reg [
 qo 4 (.p (S.get (ii 0))) []]) (
 .seq (.seq (.reg [
 mv 5 0,
 mv 6 1,
 qo 7 (.c (callF (ff 56) [(tt 5), (tt 6)])) [pp 5, pp 6],
 qo 8 (.p (eqcF true false [.int .i64] (tt 7) (ii 0))) [pp 7]]) (
 .cond (tt 8) (.seq (.reg [
 qo 4 (.p (S.get (ii 0))) []]) (
 .ret)) (.skip))) (
 .seq (.reg [
 mv 9 0,
 qo 10 (.p (nilcF (tt 9))) [pp 9],
 qo 11 (.p (faddrF (tt 10) 0)) [pp 10],
 qo 12 (.r (loadF (tt 11) 1 .sc)) [pp 11],
 mv 13 1,
 qo 14 (.p (iaddrSF (tt 12) (tt 13) 1)) [pp 12, pp 13],
 qo 15 (.r (loadF (tt 14) 1 .sc)) [pp 14],
 qo 16 (.c (callF (ff 119) [(tt 15)])) [pp 15],
 mv 4 16]) (
 .ret)))⟩
theorem c76_eq : fnOf Tryz.prog 76 = some c76 := by kernel_rfl

/-- (*ashlar/bench.Bench).Sure -/
noncomputable def c37 : CFn := ⟨[.cell (pp 6) 64 .bk, .tmp (pp 7)],
 .seq (.reg [
 qo 6 (.m (allocF 64 [.blk 0])) [],
 qo 7 (.p (S.get (ii 0))) []]) (
 .seq (.seq (.reg [
 mv 9 0,
 mv 10 1,
 qo 11 (.c (callF (ff 56) [(tt 9), (tt 10)])) [pp 9, pp 10],
 mv 8 11]) (
 .seq (.reg [
 mv 12 8,
 qo 13 (.p (eqcF true false [.int .i64] (tt 12) (ii 0))) [pp 12]]) (
 .cond (tt 13) (.seq (.reg [
 qo 14 (.p (buildF [.blk 0] .bk [])) [],
 mv 15 8,
 qn (.a (storeF (tt 6) (tt 14) 64)) [pp 6, pp 14],
 mv 7 15]) (
 .ret)) (.skip)))) (
 .seq (.reg [
 mv 16 0,
 qo 17 (.p (nilcF (tt 16))) [pp 16],
 qo 18 (.p (faddrF (tt 17) 0)) [pp 17],
 qo 19 (.r (loadF (tt 18) 1 .sc)) [pp 18],
 mv 20 1,
 qo 21 (.p (iaddrSF (tt 19) (tt 20) 1)) [pp 19, pp 20],
 qo 22 (.r (loadF (tt 21) 1 .sc)) [pp 21],
 mv 23 2,
 qo 24 (.c (callF (ff 90) [(tt 22), (tt 23)])) [pp 22, pp 23],
 qo 25 (.p (extF (tt 24) 0)) [pp 24],
 qo 26 (.p (extF (tt 24) 1)) [pp 24],
 qn (.a (storeF (tt 6) (tt 25) 64)) [pp 6, pp 25],
 mv 7 26]) (
 .ret)))⟩
theorem c37_eq : fnOf Tryz.prog 37 = some c37 := by kernel_rfl

/-- (*ashlar/bench.Bench).Devices -/
noncomputable def c63 : CFn := ⟨[.tmp (pp 2)],
 .seq (.reg [
 qo 2 (.p (S.get (ii 0))) []]) (
 .seq (.seq (.reg [
 mv 3 0,
 qo 4 (.c (callF (ff 60) [(tt 3)])) [pp 3]]) (
 .cond (tt 4) (.seq (.reg [
 qo 2 (.p (S.get (ii 0))) []]) (
 .ret)) (.skip))) (
 .seq (.reg [
 mv 5 0,
 qo 6 (.p (nilcF (tt 5))) [pp 5],
 qo 7 (.p (faddrF (tt 6) 0)) [pp 6],
 qo 8 (.r (loadF (tt 7) 1 .sc)) [pp 7],
 qo 9 (.p (lenF (tt 8))) [pp 8],
 mv 2 9]) (
 .ret)))⟩
theorem c63_eq : fnOf Tryz.prog 63 = some c63 := by kernel_rfl


/-- a bench: its devices, its steps, when the power is cut -/
structure Bn where
  l : List Dev
  st : Int
  ar : Int
  dk : Bool

def tcode (n : Nat) (d : Int) : Int := if 0 ≤ d ∧ d < (n : Int) then 0 else 2
def Bn.dev (B : Bn) (d : Int) : Dev := B.l.getD d.toNat ⟨[], [], false⟩
def Bn.tc (B : Bn) (d : Int) : Int := tcode B.l.length d
def Bn.lc (B : Bn) (d : Int) : Int := if B.dk = true then 8 else B.tc d
def Bn.rc (B : Bn) (d n : Int) : Int := if B.lc d = 0 then code (B.dev d) n else B.lc d
noncomputable def Bn.read (B : Bn) (d n : Int) : Nat := if B.lc d = 0 then (B.dev d).read n else 0
def Bn.setd (B : Bn) (d : Int) (D : Dev) : Bn := { B with l := B.l.set d.toNat D }
def Bn.step (B : Bn) (d : Int) (D : Dev) : Bn := if B.ar = 1 then { B with dk := true } else ⟨B.l.set d.toNat D, B.st + 1, arLess B.ar, B.dk⟩
def Bn.sc (B : Bn) : Int := if B.ar = 1 then 8 else 0
def Bn.wc (B : Bn) (d n : Int) : Int := if B.rc d n = 0 then B.sc else B.rc d n
def Bn.write (B : Bn) (d n : Int) (x : Nat) : Bn := if B.rc d n = 0 then B.step d ((B.dev d).write n x) else B
def Bn.flush (B : Bn) (d : Int) : Bn := if B.rc d 0 = 0 then B.step d (B.dev d).flush else B
def Bn.fail (B : Bn) (d : Int) : Bn := if B.tc d = 0 then B.setd d (B.dev d).fail else B
def Bn.dead (B : Bn) (d : Int) : Bool := if B.tc d = 0 then (B.dev d).dead else false
def Bn.sectors (B : Bn) (d : Int) : Int := if B.tc d = 0 then ((B.dev d).S.length : Int) else 0
def Bn.ic (B : Bn) (d : Int) : Int := if B.lc d = 0 then (if (B.dev d).dead = true then 0 else 17) else B.lc d
def blank (n : Nat) : Dev := ⟨List.replicate n 0, [], false⟩
def Bn.insert (B : Bn) (d : Int) : Bn := if B.ic d = 0 then B.setd d (blank (B.dev d).S.length) else B
def Bn.ac (B : Bn) (n : Int) : Int := if B.dk = true then 8 else if n < 0 then 2 else 0
def Bn.arm (B : Bn) (n : Int) : Bn := if B.ac n = 0 then { B with ar := n } else B
def Bn.uc (B : Bn) (d n : Int) : Int := if B.tc d = 0 then code (B.dev d) n else 2
def Bn.sure (B : Bn) (d n : Int) : Nat := if B.tc d = 0 then (B.dev d).sure n else 0
def Bn.oc (B : Bn) (d n j : Int) : Int := if B.tc d = 0 then rcode (B.dev d) n j else 2
noncomputable def Bn.rot (B : Bn) (d n j : Int) (x : Nat) : Bn := if B.tc d = 0 then B.setd d ((B.dev d).rot n j x) else B

/-- what is asked of a device that a bench has -/
structure Good (D : Dev) : Prop where
  ne : D.S ≠ []
  ok : ∀ w ∈ D.L, w.1 < D.S.length
  len : D.S.length ≤ 512
  le : D.L.length ≤ 900

/-- the program's bench keeps steps, power, dark; the document's power, dark, steps -/
def n1 : Bool → Bn → V
  | false, B => .int .i64 B.st
  | true, B => .int .i64 B.ar
def n2 : Bool → Bn → V
  | false, B => .int .i64 B.ar
  | true, B => .bool B.dk
def n3 : Bool → Bn → V
  | false, B => .bool B.dk
  | true, B => .int .i64 B.st

structure Rep (r : Bool) (H : Heap) (b ds : Bk) (so : Nat) (l : List Dv) (B : Bn) : Prop where
  row : DvsAt H b ds so l (n1 r B) (n2 r B) (n3 r B)
  map : l.map Dv.D = B.l
abbrev BRep := Rep false
theorem Rep.at' {H : Heap} {b ds : Bk} {so : Nat} {l : List Dv} {B : Bn} (h : Rep false H b ds so l B) : BenchAt H b ds so l B.st B.ar B.dk := h.row

theorem Rep.turns {H H' : Heap} {b ds : Bk} {so : Nat} {l : List Dv} {B : Bn} {r : Bool} (h : Rep r H b ds so l B) (k : Turns Z H H') : Rep r H' b ds so l B := ⟨h.row.turns k, h.map⟩
theorem Rep.len {H : Heap} {b ds : Bk} {so : Nat} {l : List Dv} {B : Bn} {r : Bool} (h : Rep r H b ds so l B) : l.length = B.l.length := by rw [← h.map, List.length_map]

theorem tcode_cases (n : Nat) (d : Int) : (∃ i : Nat, i < n ∧ d = (i : Int) ∧ tcode n d = 0) ∨ tcode n d = 2 := by
  unfold tcode
  by_cases h : 0 ≤ d ∧ d < (n : Int)
  · rw [if_pos h]
    exact .inl ⟨d.toNat, by omega, by omega, rfl⟩
  · rw [if_neg h]; exact .inr rfl

theorem Rep.has {H : Heap} {b ds : Bk} {so : Nat} {l : List Dv} {B : Bn} {r : Bool} (h : Rep r H b ds so l B) (d : Int) : (∃ i : Nat, ∃ hi : i < l.length, d = (i : Int) ∧ B.tc d = 0 ∧ B.dev d = l[i].D) ∨ B.tc d = 2 := by
  rcases tcode_cases B.l.length d with ⟨i, hi, rfl, e⟩ | e
  · have hi' : i < l.length := by rw [h.len]; exact hi
    refine .inl ⟨i, hi', rfl, e, ?_⟩
    unfold Bn.dev
    rw [← h.map]
    simp [List.getD, hi']
  · exact .inr e

def BFoot (b ds : Bk) (l : List Dv) (c : Bk) : Prop := c = b ∨ c = ds ∨ ∃ x ∈ l, x.foot c

structure RNext (r : Bool) (H : Heap) (b ds : Bk) (so : Nat) (l : List Dv) (H' : Heap) (l' : List Dv) (B' : Bn) : Prop where
  rep : Rep r H' b ds so l' B'
  turns : Turns (BFoot b ds l) H H'
  foot : ∀ c, BFoot b ds l' c → BFoot b ds l c ∨ ¬ H.Old c
abbrev BNext := RNext false

theorem Rep.idle {H H' : Heap} {b ds : Bk} {so : Nat} {l : List Dv} {B : Bn} {r : Bool} (h : Rep r H b ds so l B) (k : Turns Z H H') : RNext r H b ds so l H' l B :=
  ⟨h.turns k, k.wide (fun c hc => hc.elim), fun c hc => .inl hc⟩

theorem RNext.before {H0 H H' : Heap} {b ds : Bk} {so : Nat} {l l' : List Dv} {B' : Bn} {r : Bool} (t : Turns Z H0 H) (k : RNext r H b ds so l H' l' B') : RNext r H0 b ds so l H' l' B' :=
  ⟨k.rep, (t.wide (fun c hc => hc.elim)).trans k.turns, fun c hc => (k.foot c hc).imp id (fun h o => h (o.mono t.next))⟩
theorem RNext.after {H H' H2 : Heap} {b ds : Bk} {so : Nat} {l l' : List Dv} {B' : Bn} {r : Bool} (k : RNext r H b ds so l H' l' B') (t : Turns Z H' H2) : RNext r H b ds so l H2 l' B' :=
  ⟨k.rep.turns t, k.turns.trans (t.wide (fun c hc => hc.elim)), k.foot⟩

theorem foot_set {b ds : Bk} {l : List Dv} {i : Nat} (hi : i < l.length) {x : Dv} {P : Bk → Prop} (hx : ∀ c, x.foot c → l[i].foot c ∨ P c) : ∀ c, BFoot b ds (l.set i x) c → BFoot b ds l c ∨ P c := by
  rintro c (h | h | ⟨z, hz, hc⟩)
  · exact .inl (.inl h)
  · exact .inl (.inr (.inl h))
  · rcases List.mem_or_eq_of_mem_set hz with hz | rfl
    · exact .inl (.inr (.inr ⟨z, hz, hc⟩))
    · rcases hx c hc with h | h
      · exact .inl (.inr (.inr ⟨_, List.getElem_mem hi, h⟩))
      · exact .inr h

theorem map_set_D {l : List Dv} {B : List Dev} (h : l.map Dv.D = B) (i : Nat) (x : Dv) : (l.set i x).map Dv.D = B.set i x.D := by rw [List.map_set, h]

/-- one device turned -/
theorem Rep.dev {H H' : Heap} {b ds : Bk} {so : Nat} {l : List Dv} {B : Bn} {r : Bool} (h : Rep r H b ds so l B) {i : Nat} (hi : i < l.length) {y' : Lay} {D' : Dev} (k : Next H l[i].b l[i].y l[i].D H' y' D') : RNext r H b ds so l H' (l.set i ⟨l[i].b, y', D'⟩) (B.setd (i : Int) D') := by
  refine ⟨⟨by cases r <;> exact h.row.step hi k, map_set_D h.map i _⟩, k.turns.wide (fun c hc => .inr (.inr ⟨_, List.getElem_mem hi, hc⟩)), foot_set hi ?_⟩
  rintro c (rfl | rfl | ⟨hl, rfl⟩)
  · exact .inl (.inl rfl)
  · exact .inl (.inr (.inl k.s))
  · rcases k.l hl with ⟨h1, h2⟩ | h1
    · exact .inl (.inr (.inr ⟨h1, h2⟩))
    · exact .inr h1

theorem Rep.did {H H' : Heap} {b ds : Bk} {so : Nat} {l : List Dv} {B : Bn} (h : BRep H b ds so l B) (hdk : B.dk = false) (h1 : B.ar ≠ 1) {i : Nat} {hi : i < l.length} {y' : Lay} {D' : Dev} (k : Did H b ds so l B.st B.ar i hi D' H' y') : BNext H b ds so l H' (l.set i ⟨l[i].b, y', D'⟩) (B.step (i : Int) D') := by
  have e : B.step (i : Int) D' = ⟨B.l.set i D', B.st + 1, arLess B.ar, false⟩ := by unfold Bn.step; rw [if_neg h1, hdk]; rfl
  rw [e]
  refine ⟨⟨k.at', map_set_D h.map i _⟩, k.turns.wide ?_, foot_set hi k.foot⟩
  rintro c (hc | hc)
  · exact .inl hc
  · exact .inr (.inr ⟨_, List.getElem_mem hi, hc⟩)

theorem Rep.cut {H H' : Heap} {b ds : Bk} {so : Nat} {l : List Dv} {B : Bn} (h : BRep H b ds so l B) (h1 : B.ar = 1) (D' : Dev) (d : Int) (k : BenchAt H' b ds so l B.st 1 true) (t : Turns (fun c => c = b) H H') : BNext H b ds so l H' l (B.step d D') := by
  have e : B.step d D' = ⟨B.l, B.st, 1, true⟩ := by unfold Bn.step; rw [if_pos h1, h1]
  rw [e]
  exact ⟨⟨k, h.map⟩, t.wide (fun c hc => .inl hc), fun c hc => .inl hc⟩

/-- a new device in the place of one -/
theorem Rep.place {H H1 : Heap} {b ds : Bk} {so : Nat} {l : List Dv} {B : Bn} {r : Bool} (h : Rep r H b ds so l B) {i : Nat} (hi : i < l.length) (t : Turns Z H H1) {c : Bk} {y : Lay} {D : Dev} (hD : DevAt H1 c y D) (hF : Fresh H c y D) :
    storeAt H1 ⟨ds, i⟩ [.ptr (some ⟨c, 0⟩)] = some (H1.set ds (.rows false 1 ((l.set i ⟨c, y, D⟩).map fun x => [.ptr (some ⟨x.b, 0⟩)]))) ∧ RNext r H b ds so l (H1.set ds (.rows false 1 ((l.set i ⟨c, y, D⟩).map fun x => [.ptr (some ⟨x.b, 0⟩)]))) (l.set i ⟨c, y, D⟩) (B.setd (i : Int) D) := by
  have A := h.row
  have A1 := A.turns t
  have st : storeAt H1 ⟨ds, i⟩ [.ptr (some ⟨c, 0⟩)] = some (H1.set ds (.rows false 1 ((l.set i ⟨c, y, D⟩).map fun x => [.ptr (some ⟨x.b, 0⟩)]))) := by
    rw [storeAt_eq A1.ptrs (r := [.ptr (some ⟨l[i].b, 0⟩)]) (r' := [.ptr (some ⟨c, 0⟩)]) (nth_of (by rw [Nat.div_one]; simp [hi])) (by rw [Nat.mod_one]; rfl), Nat.div_one, List.map_set]
  have nf := hF.foot
  have hc : ¬ Foot c y D ds := fun e => nf ds e A.old.2
  have hcb : ¬ Foot c y D b := fun e => nf b e A.old.1
  have hk : Turns (fun x => x = ds) H1 (H1.set ds (.rows false 1 ((l.set i ⟨c, y, D⟩).map fun x => [.ptr (some ⟨x.b, 0⟩)]))) := Turns.set (X := fun x => x = ds) rfl _ _
  refine ⟨st, ⟨⟨⟨?_, ?_, fun j hj => ?_, fun p q hp hq hpq => ?_, ?_, A.ne, fun j hj => ?_⟩, map_set_D h.map i _⟩, (t.wide (fun c hc => hc.elim)).trans (hk.wide fun x hx => .inr (.inl hx)), foot_set hi (fun x hx => .inr (nf x hx))⟩⟩
  · rw [List.length_set]; cases r <;> exact (hk.same b A1.old.1 A.ne).trans A1.own
  · rw [Heap.get_set, if_pos rfl]
  · have hj' : j < l.length := by simpa using hj
    by_cases e : i = j
    · subst e
      rw [List.getElem_set_self]
      exact hD.turns hk (fun e => hc (.inl e.symm)) (fun e => hc (.inr (.inl e.symm))) (fun hl e => hc (.inr (.inr ⟨hl, e.symm⟩)))
    · rw [List.getElem_set_ne e]
      have o := (A.out j hj').2
      exact (A1.dev j hj').turns hk (fun e => o (.inl e.symm)) (fun e => o (.inr (.inl e.symm))) (fun hl e => o (.inr (.inr ⟨hl, e.symm⟩)))
  · have hp' : p < l.length := by simpa using hp
    have hq' : q < l.length := by simpa using hq
    by_cases e1 : i = p
    · subst e1
      rw [List.getElem_set_self, List.getElem_set_ne hpq]
      exact (sep_fresh (A.dev q hq') hF).symm
    · by_cases e2 : i = q
      · subst e2
        rw [List.getElem_set_self, List.getElem_set_ne e1]
        exact sep_fresh (A.dev p hp') hF
      · rw [List.getElem_set_ne e1, List.getElem_set_ne e2]
        exact A.sep p q hp' hq' hpq
  · simp only [Heap.old_set]; exact A1.old
  · have hj' : j < l.length := by simpa using hj
    by_cases e : i = j
    · subst e
      rw [List.getElem_set_self]
      exact ⟨hcb, hc⟩
    · rw [List.getElem_set_ne e]
      exact A.out j hj'

section
variable {H : Heap} {b ds : Bk} {so : Nat} {l : List Dv} {B : Bn} (h : BRep H b ds so l B) (hl : l ≠ [])
include h hl

theorem bhas_no {d : Int} (hd : B.tc d = 2) (lf m : Nat) : callS Tryz.prog S0 lf (m + 1) 108 [.ptr (some ⟨b, 0⟩), .int .i64 d] H = some (.v (.bool false), H) := by
  have l0 := bload0 h.at'
  have hn : ¬ (0 ≤ d ∧ d < (l.length : Int)) := fun e => by
    unfold Bn.tc tcode at hd; rw [← h.len, if_pos e] at hd; cases hd
  obtain ⟨v, H', e, rfl, rfl⟩ : ret (callS Tryz.prog S0 lf (m + 1) 108 [.ptr (some ⟨b, 0⟩), .int .i64 d] H) fun v H' => v = .bool false ∧ H' = H := by
    refine ret_call rfl c108_eq ?_
    by_cases g0 : 0 ≤ d
    · have g1 : ¬ (d < (l.length : Int)) := fun e => hn ⟨g0, e⟩
      simp only [c108, l0, g0, g1, sy, tup, ↓reduceIte, Nat.reduceEqDiff, Nat.reduceAdd, Nat.reduceSub, Nat.reduceMul, Nat.reduceDiv, Nat.reduceMod, Nat.reduceLeDiff, Int.reduceBEq, reduceCtorEq]
      simp
    · simp only [c108, l0, g0, sy, tup, ↓reduceIte, Nat.reduceEqDiff, Nat.reduceAdd, Nat.reduceSub, Nat.reduceMul, Nat.reduceDiv, Nat.reduceMod, Nat.reduceLeDiff, Int.reduceBEq, reduceCtorEq]
      simp
  exact e

theorem bthere_all (d : Int) (lf m : Nat) : callS Tryz.prog S0 lf (m + 2) 56 [.ptr (some ⟨b, 0⟩), .int .i64 d] H = some (.v (.int .i64 (B.tc d)), H) := by
  rcases h.has d with ⟨i, hi, rfl, e, _⟩ | e
  · rw [e]; exact bthere h.at' hi lf m
  · rw [e]
    have e1 := bnone h.at' hl lf m
    have e2 := bhas_no h hl e lf m
    obtain ⟨v, H', e, rfl, rfl⟩ : ret (callS Tryz.prog S0 lf (m + 2) 56 [.ptr (some ⟨b, 0⟩), .int .i64 d] H) fun v H' => v = .int .i64 2 ∧ H' = H := by
      refine ret_call rfl c56_eq ?_
      simp only [c56, e1, e2, sy, tup, ↓reduceIte, Nat.reduceEqDiff, Nat.reduceAdd, Nat.reduceSub, Nat.reduceMul, Nat.reduceDiv, Nat.reduceMod, Nat.reduceLeDiff, Int.reduceBEq, reduceCtorEq]
      simp
    exact e

theorem blit_all (d : Int) (lf m : Nat) : callS Tryz.prog S0 lf (m + 3) 105 [.ptr (some ⟨b, 0⟩), .int .i64 d] H = some (.v (.int .i64 (B.lc d)), H) := by
  cases hdk : B.dk with
  | true => rw [show B.lc d = 8 from if_pos hdk]; exact blit_dark h.at' hl hdk d lf m
  | false =>
    have e0 : B.lc d = B.tc d := if_neg (by rw [hdk]; decide)
    have e1 := bnone h.at' hl lf (m + 1)
    have e2 := bthere_all h hl d lf m
    have l3 := bload3 h.at'
    rw [hdk] at l3
    change callS Tryz.prog S0 lf (m + 2) 60 [.ptr (some ⟨b, 0⟩)] H = _ at e1
    rw [e0]
    obtain ⟨v, H', e, rfl, rfl⟩ : ret (callS Tryz.prog S0 lf (m + 3) 105 [.ptr (some ⟨b, 0⟩), .int .i64 d] H) fun v H' => v = .int .i64 (B.tc d) ∧ H' = H := by
      refine ret_call rfl c105_eq ?_
      simp only [c105, e1, e2, l3, sy, tup, ↓reduceIte, Nat.reduceEqDiff, Nat.reduceAdd, Nat.reduceSub, Nat.reduceMul, Nat.reduceDiv, Nat.reduceMod, Nat.reduceLeDiff, Int.reduceBEq, reduceCtorEq]
      simp
    exact e

variable (hg : ∀ D ∈ B.l, Good D)
include hg

theorem good_at {i : Nat} (hi : i < l.length) : Good l[i].D := hg _ (by rw [← h.map]; exact List.mem_map_of_mem (List.getElem_mem hi))

theorem bread_all (d n : Int) {lf : Nat} (hlf : 1000 < lf) (m : Nat) :
    ret (callS Tryz.prog S0 lf (m + 4) 48 [.ptr (some ⟨b, 0⟩), .int .i64 d, .int .i64 n] H) fun v H' => v = .tuple [.blk (B.read d n), .int .i64 (B.rc d n)] ∧ Turns Z H H' := by
  by_cases hc : B.lc d = 0
  · have hr : B.read d n = (B.dev d).read n := if_pos hc
    have hrc : B.rc d n = code (B.dev d) n := if_pos hc
    have hdk : B.dk = false := by
      cases hdk : B.dk with
      | false => rfl
      | true => rw [show B.lc d = 8 from if_pos hdk] at hc; cases hc
    have ht : B.tc d = 0 := by rw [← hc]; exact (if_neg (by rw [hdk]; decide)).symm
    rcases h.has d with ⟨i, hi, rfl, _, e⟩ | e
    · rw [hr, hrc, e]
      have g := good_at h hl hg hi
      exact bread h.at' hi hdk n g.ne (by have := g.le; omega) (by have := g.le; omega) m
    · rw [ht] at e; cases e
  · have hr : B.read d n = 0 := if_neg hc
    have hrc : B.rc d n = B.lc d := if_neg hc
    have hz : (B.lc d == 0) = false := by simp; exact hc
    have t1 := Turns.add Z H (.rows false 64 [[.blk 0]])
    have e1 := blit_all (h.turns t1) hl d lf m
    rw [hr, hrc]
    refine ret_call rfl c48_eq ?_
    simp only [c48, e1, hz, sy, tup, ↓reduceIte, Nat.reduceEqDiff, Nat.reduceAdd, Nat.reduceSub, Nat.reduceMul, Nat.reduceDiv, Nat.reduceMod, Nat.reduceLeDiff, Int.reduceBEq, reduceCtorEq]
    exact ⟨trivial, .inr trivial, _, rfl, rfl, t1.setnew (Nat.le_refl _) _⟩

theorem bwrite_all (ha : 0 ≤ B.ar ∧ B.ar ≤ 9223372036854775807) (hs : 0 ≤ B.st ∧ B.st ≤ 100000) (d n : Int) (x : Nat) {lf : Nat} (hlf : 1000 < lf) (m : Nat) :
    ret (callS Tryz.prog S0 lf (m + 6) 9 [.ptr (some ⟨b, 0⟩), .int .i64 d, .int .i64 n, .blk x] H) fun v H' => v = .int .i64 (B.wc d n) ∧ ∃ l', BNext H b ds so l H' l' (B.write d n x) := by
  by_cases hc : B.rc d n = 0
  · have hw : B.write d n x = B.step d ((B.dev d).write n x) := if_pos hc
    have hwc : B.wc d n = B.sc := if_pos hc
    have hlc : B.lc d = 0 := by
      by_cases e : B.lc d = 0
      · exact e
      · rw [show B.rc d n = B.lc d from if_neg e] at hc; exact absurd hc e
    have hcc : code (B.dev d) n = 0 := (if_pos hlc : B.rc d n = code (B.dev d) n).symm.trans hc
    have hdk : B.dk = false := by
      cases hdk : B.dk with
      | false => rfl
      | true => rw [show B.lc d = 8 from if_pos hdk] at hlc; cases hlc
    have ht : B.tc d = 0 := by rw [← hlc]; exact (if_neg (by rw [hdk]; decide)).symm
    rcases h.has d with ⟨i, hi, rfl, _, e⟩ | e
    · rw [hw, hwc, e]
      rw [e] at hcc
      have g := good_at h hl hg hi
      have hA := h.at'
      rw [hdk] at hA
      obtain ⟨v, H', e1, hcase⟩ := bwrite hA ha hs hi n x (lf := lf) g.ne (by have := g.le; omega) (by have := g.le; omega) hcc m
      rcases hcase with ⟨h1, rfl, hB, k⟩ | ⟨h1, rfl, y', k⟩
      · exact ⟨_, H', e1, by rw [show B.sc = 8 from if_pos h1], l, h.cut h1 _ _ hB k⟩
      · exact ⟨_, H', e1, by rw [show B.sc = 0 from if_neg h1], _, h.did hdk h1 k⟩
    · rw [ht] at e; cases e
  · have hw : B.write d n x = B := if_neg hc
    have hwc : B.wc d n = B.rc d n := if_neg hc
    rw [hw, hwc]
    have hT4 : Turns Z H ((((H.add (.rows false 1 [[.ptr (some ⟨b, 0⟩)]])).add (.rows false 1 [[.int .i64 d]])).add (.rows false 1 [[.int .i64 n]])).add (.rows false 64 [[.blk x]])) := ((((Turns.refl Z H).addm _).addm _).addm _).addm _
    have g0 : ((((H.add (.rows false 1 [[.ptr (some ⟨b, 0⟩)]])).add (.rows false 1 [[.int .i64 d]])).add (.rows false 1 [[.int .i64 n]])).add (.rows false 64 [[.blk x]])).get (.run H.next) = some (.rows false 1 [[.ptr (some ⟨b, 0⟩)]]) := by
      rw [Heap.get_add, if_neg (by simp <;> omega), Heap.get_add, if_neg (by simp <;> omega), Heap.get_add, if_neg (by simp <;> omega), Heap.get_add, if_pos rfl]
    have g1 : ((((H.add (.rows false 1 [[.ptr (some ⟨b, 0⟩)]])).add (.rows false 1 [[.int .i64 d]])).add (.rows false 1 [[.int .i64 n]])).add (.rows false 64 [[.blk x]])).get (.run (H.next + 1)) = some (.rows false 1 [[.int .i64 d]]) := by
      rw [Heap.get_add, if_neg (by simp <;> omega), Heap.get_add, if_neg (by simp <;> omega), Heap.get_add, if_pos (by simp)]
    have g2 : ((((H.add (.rows false 1 [[.ptr (some ⟨b, 0⟩)]])).add (.rows false 1 [[.int .i64 d]])).add (.rows false 1 [[.int .i64 n]])).add (.rows false 64 [[.blk x]])).get (.run (H.next + 1 + 1)) = some (.rows false 1 [[.int .i64 n]]) := by
      rw [Heap.get_add, if_neg (by simp <;> omega), Heap.get_add, if_pos (by simp)]
    generalize hH4 : ((((H.add (.rows false 1 [[.ptr (some ⟨b, 0⟩)]])).add (.rows false 1 [[.int .i64 d]])).add (.rows false 1 [[.int .i64 n]])).add (.rows false 64 [[.blk x]])) = H4 at hT4 g0 g1 g2
    have d0 := load1_of g0 rfl
    have d1 := load1_of g1 rfl
    have d2 := load1_of g2 rfl
    obtain ⟨v1, K1, e1, rfl, t1⟩ := bread_all (h.turns hT4) hl hg d n hlf (m + 1)
    change callS Tryz.prog S0 lf (m + 5) 48 [.ptr (some ⟨b, 0⟩), .int .i64 d, .int .i64 n] H4 = _ at e1
    generalize B.read d n = X at e1
    have hz : (B.rc d n == 0) = false := by simp; exact hc
    generalize B.rc d n = z at e1 hz
    refine ret_call rfl c9_eq ?_
    simp only [c9, sy, tup, ↓reduceIte, Nat.reduceEqDiff, Nat.reduceAdd, Nat.reduceSub, Nat.reduceMul, Nat.reduceDiv, Nat.reduceMod, Nat.reduceLeDiff, Int.reduceBEq, reduceCtorEq]
    rw [hH4]
    simp only [d0, d1, d2, e1, cell_fold, hz, sy, tup, ↓reduceIte, Nat.reduceEqDiff, Nat.reduceAdd, Nat.reduceSub, Nat.reduceMul, Nat.reduceDiv, Nat.reduceMod, Nat.reduceLeDiff, Int.reduceBEq, reduceCtorEq]
    exact ⟨trivial, .inr trivial, _, rfl, rfl, l, h.idle ((hT4.trans t1).trans (cell_turns K1 X))⟩

theorem bflush_all (ha : 0 ≤ B.ar ∧ B.ar ≤ 9223372036854775807) (hs : 0 ≤ B.st ∧ B.st ≤ 100000) (d : Int) {lf : Nat} (hlf : 1000 < lf) (m : Nat) :
    ret (callS Tryz.prog S0 lf (m + 5) 15 [.ptr (some ⟨b, 0⟩), .int .i64 d] H) fun v H' => v = .int .i64 (B.wc d 0) ∧ ∃ l', BNext H b ds so l H' l' (B.flush d) := by
  by_cases hc : B.rc d 0 = 0
  · have hw : B.flush d = B.step d (B.dev d).flush := if_pos hc
    have hwc : B.wc d 0 = B.sc := if_pos hc
    have hlc : B.lc d = 0 := by
      by_cases e : B.lc d = 0
      · exact e
      · rw [show B.rc d 0 = B.lc d from if_neg e] at hc; exact absurd hc e
    have hcc : code (B.dev d) 0 = 0 := (if_pos hlc : B.rc d 0 = code (B.dev d) 0).symm.trans hc
    have hdk : B.dk = false := by
      cases hdk : B.dk with
      | false => rfl
      | true => rw [show B.lc d = 8 from if_pos hdk] at hlc; cases hlc
    have ht : B.tc d = 0 := by rw [← hlc]; exact (if_neg (by rw [hdk]; decide)).symm
    rcases h.has d with ⟨i, hi, rfl, _, e⟩ | e
    · rw [hw, hwc, e]
      rw [e] at hcc
      have g := good_at h hl hg hi
      have hA := h.at'
      rw [hdk] at hA
      have hdd : l[i].D.dead = false := by
        rcases code_cases l[i].D 0 with ⟨k, _, _, hd, _⟩ | h2 | h2
        · exact hd
        · rw [hcc] at h2; cases h2
        · rw [hcc] at h2; cases h2
      obtain ⟨v, H', e1, hcase⟩ := bflush hA ha hs hi (lf := lf) g.ne g.ok (by have := g.le; omega) (by have := g.le; omega) hdd m
      rcases hcase with ⟨h1, rfl, hB, k⟩ | ⟨h1, rfl, y', k⟩
      · exact ⟨_, H', e1, by rw [show B.sc = 8 from if_pos h1], l, h.cut h1 _ _ hB k⟩
      · exact ⟨_, H', e1, by rw [show B.sc = 0 from if_neg h1], _, h.did hdk h1 k⟩
    · rw [ht] at e; cases e
  · have hw : B.flush d = B := if_neg hc
    have hwc : B.wc d 0 = B.rc d 0 := if_neg hc
    rw [hw, hwc]
    obtain ⟨v1, K1, e1, rfl, t1⟩ := bread_all h hl hg d 0 hlf m
    generalize B.read d 0 = X at e1
    have hz : (B.rc d 0 == 0) = false := by simp; exact hc
    generalize B.rc d 0 = z at e1 hz
    refine ret_call rfl c15_eq ?_
    simp only [c15, e1, cell_fold, hz, sy, tup, ↓reduceIte, Nat.reduceEqDiff, Nat.reduceAdd, Nat.reduceSub, Nat.reduceMul, Nat.reduceDiv, Nat.reduceMod, Nat.reduceLeDiff, Int.reduceBEq, reduceCtorEq]
    exact ⟨trivial, .inr trivial, _, rfl, rfl, l, h.idle (t1.trans (cell_turns K1 X))⟩

theorem bfail_all (d : Int) (lf m : Nat) :
    ret (callS Tryz.prog S0 lf (m + 3) 11 [.ptr (some ⟨b, 0⟩), .int .i64 d] H) fun v H' => v = .int .i64 (B.tc d) ∧ ∃ l', BNext H b ds so l H' l' (B.fail d) := by
  have e1 := bthere_all h hl d lf m
  rcases h.has d with ⟨i, hi, rfl, e, eD⟩ | e
  · have hw : B.fail (i : Int) = B.setd (i : Int) l[i].D.fail := by rw [← eD]; exact if_pos e
    rw [hw]
    rw [e] at e1 ⊢
    have l0 := bload0 h.at'
    have lp := bloadP h.at' hi
    have hi1 : i + 1 ≤ l.length := hi
    obtain ⟨v, H', e2, rfl, y', k⟩ := fail_ok (h.at'.dev i hi) (good_at h hl hg hi).ne lf m
    refine ret_call rfl c11_eq ?_
    simp only [c11, e1, l0, lp, hi1, e2, Nat.mul_one, sy, tup, ↓reduceIte, Nat.reduceEqDiff, Nat.reduceAdd, Nat.reduceSub, Nat.reduceMul, Nat.reduceDiv, Nat.reduceMod, Nat.reduceLeDiff, Int.reduceBEq, reduceCtorEq]
    exact ⟨trivial, .inr trivial, _, rfl, rfl, _, h.dev hi k⟩
  · have hw : B.fail d = B := if_neg (by rw [e]; decide)
    rw [hw]
    rw [e] at e1 ⊢
    refine ret_call rfl c11_eq ?_
    simp only [c11, e1, sy, tup, ↓reduceIte, Nat.reduceEqDiff, Nat.reduceAdd, Nat.reduceSub, Nat.reduceMul, Nat.reduceDiv, Nat.reduceMod, Nat.reduceLeDiff, Int.reduceBEq, reduceCtorEq]
    exact ⟨trivial, .inr trivial, _, rfl, rfl, l, h.idle (Turns.refl Z H)⟩

theorem bsectors_all (d : Int) (lf m : Nat) :
    callS Tryz.prog S0 lf (m + 3) 76 [.ptr (some ⟨b, 0⟩), .int .i64 d] H = some (.v (.int .i64 (B.sectors d)), H) := by
  have e1 := bthere_all h hl d lf m
  obtain ⟨v, H', e, rfl, rfl⟩ : ret (callS Tryz.prog S0 lf (m + 3) 76 [.ptr (some ⟨b, 0⟩), .int .i64 d] H) fun v H' => v = .int .i64 (B.sectors d) ∧ H' = H := by
    rcases h.has d with ⟨i, hi, rfl, e, eD⟩ | e
    · have hw : B.sectors (i : Int) = (l[i].D.S.length : Int) := by rw [← eD]; exact if_pos e
      rw [hw]
      rw [e] at e1
      have l0 := bload0 h.at'
      have lp := bloadP h.at' hi
      have hi1 : i + 1 ≤ l.length := hi
      obtain ⟨v, H', e2, rfl, rfl⟩ := sectors_ok (h.at'.dev i hi) (good_at h hl hg hi).ne lf m
      refine ret_call rfl c76_eq ?_
      simp only [c76, e1, l0, lp, hi1, e2, Nat.mul_one, sy, tup, ↓reduceIte, Nat.reduceEqDiff, Nat.reduceAdd, Nat.reduceSub, Nat.reduceMul, Nat.reduceDiv, Nat.reduceMod, Nat.reduceLeDiff, Int.reduceBEq, reduceCtorEq]
      simp
    · have hw : B.sectors d = 0 := if_neg (by rw [e]; decide)
      rw [hw]
      rw [e] at e1
      refine ret_call rfl c76_eq ?_
      simp only [c76, e1, sy, tup, ↓reduceIte, Nat.reduceEqDiff, Nat.reduceAdd, Nat.reduceSub, Nat.reduceMul, Nat.reduceDiv, Nat.reduceMod, Nat.reduceLeDiff, Int.reduceBEq, reduceCtorEq]
      simp
  exact e

theorem barm_all (n : Int) (lf m : Nat) :
    ret (callS Tryz.prog S0 lf (m + 2) 13 [.ptr (some ⟨b, 0⟩), .int .i64 n] H) fun v H' => v = .int .i64 (B.ac n) ∧ BNext H b ds so l H' l (B.arm n) := by
  cases hdk : B.dk with
  | true =>
    have e0 : B.ac n = 8 := if_pos hdk
    have e1 : B.arm n = B := if_neg (by rw [e0]; decide)
    rw [e0, e1]
    exact ⟨_, H, barm_dark h.at' hl hdk n lf m, rfl, h.idle (Turns.refl Z H)⟩
  | false =>
    by_cases hn : n < 0
    · have e0 : B.ac n = 2 := by unfold Bn.ac; rw [if_neg (by rw [hdk]; decide), if_pos hn]
      have e1 : B.arm n = B := if_neg (by rw [e0]; decide)
      rw [e0, e1]
      have en := bnone h.at' hl lf m
      have l3 := bload3 h.at'
      rw [hdk] at l3
      refine ret_call rfl c13_eq ?_
      simp only [c13, en, l3, hn, sy, tup, ↓reduceIte, Nat.reduceEqDiff, Nat.reduceAdd, Nat.reduceSub, Nat.reduceMul, Nat.reduceDiv, Nat.reduceMod, Nat.reduceLeDiff, Int.reduceBEq, reduceCtorEq]
      exact ⟨trivial, .inr trivial, _, rfl, rfl, h.idle (Turns.refl Z H)⟩
    · have e0 : B.ac n = 0 := by unfold Bn.ac; rw [if_neg (by rw [hdk]; decide), if_neg hn]
      have e1 : B.arm n = { B with ar := n } := if_pos e0
      rw [e0, e1]
      refine ⟨_, _, barm h.at' hl hdk (x := n) (by omega) lf m, rfl, ⟨h.at'.put B.st n B.dk, h.map⟩, Turns.set (X := BFoot b ds l) (.inl rfl) _ _, fun c hc => .inl hc⟩

theorem bsure_all (d n : Int) (lf m : Nat) :
    ret (callS Tryz.prog S0 lf (m + 4) 37 [.ptr (some ⟨b, 0⟩), .int .i64 d, .int .i64 n] H) fun v H' => v = .tuple [.blk (B.sure d n), .int .i64 (B.uc d n)] ∧ Turns Z H H' := by
  have t1 := Turns.add Z H (.rows false 64 [[.blk 0]])
  have h' := h.turns t1
  have e1 := bthere_all h' hl d lf (m + 1)
  change callS Tryz.prog S0 lf (m + 3) 56 _ _ = _ at e1
  rcases h.has d with ⟨i, hi, rfl, e, eD⟩ | e
  · have hw : B.sure (i : Int) n = l[i].D.sure n := by rw [← eD]; exact if_pos e
    have hc : B.uc (i : Int) n = code l[i].D n := by rw [← eD]; exact if_pos e
    rw [hw, hc]
    rw [e] at e1
    have l0 := bload0 h'.at'
    have lp := bloadP h'.at' hi
    have hi1 : i + 1 ≤ l.length := hi
    obtain ⟨v, H1, e2, rfl, t2⟩ := sure_all (h'.at'.dev i hi) (good_at h hl hg hi).ne n lf m
    have g0 : H1.get (.run H.next) = some (.rows false 64 [[.blk 0]]) := by
      rw [t2.same _ (by show _ < _; simp) id, Heap.get_add, if_pos rfl]
    have st := cell_store (v := l[i].D.sure n) g0
    refine ret_call rfl c37_eq ?_
    simp only [c37, e1, l0, lp, hi1, e2, st, Nat.mul_one, sy, tup, ↓reduceIte, Nat.reduceEqDiff, Nat.reduceAdd, Nat.reduceSub, Nat.reduceMul, Nat.reduceDiv, Nat.reduceMod, Nat.reduceLeDiff, Int.reduceBEq, reduceCtorEq]
    exact ⟨trivial, .inr trivial, _, rfl, rfl, (t1.trans t2).setnew (Nat.le_refl _) _⟩
  · have hw : B.sure d n = 0 := if_neg (by rw [e]; decide)
    have hc : B.uc d n = 2 := if_neg (by rw [e]; decide)
    rw [hw, hc]
    rw [e] at e1
    refine ret_call rfl c37_eq ?_
    simp only [c37, e1, sy, tup, ↓reduceIte, Nat.reduceEqDiff, Nat.reduceAdd, Nat.reduceSub, Nat.reduceMul, Nat.reduceDiv, Nat.reduceMod, Nat.reduceLeDiff, Int.reduceBEq, reduceCtorEq]
    exact ⟨trivial, .inr trivial, _, rfl, rfl, t1.setnew (Nat.le_refl _) _⟩

end

end Go.Proofs.YtpmdbbdidafehaaGreat.disk


/-
  A bench in the machine's heap: how one is made.
-/
set_option linter.unusedVariables false
set_option linter.unusedSectionVars false
set_option linter.unusedSimpArgs false
set_option maxRecDepth 10000
namespace Go.Proofs.YtpmdbbdidafehaaGreat.disk
open Go.Am

noncomputable def c24_l0 : C := .seq (.reg [
 qo 22 (.p (arF .lss (tt 21) (tt 20))) [pp 21, pp 20]]) (
 .seq (.cond (tt 22) (.skip) (.exit 0)) (
 .seq (.block 1 (.seq (.reg [
 qo 23 (.p (iaddrSF (tt 19) (tt 21) 1)) [pp 19, pp 21],
 qo 24 (.r (loadF (tt 23) 1 .sc)) [pp 23],
 mv 6 24]) (
 .seq (.reg [
 mv 26 6,
 qo 27 (.c (callF (ff 73) [(tt 26)])) [pp 26],
 mv 25 27,
 qo 28 (.p (extF (tt 25) 0)) [pp 25],
 qo 29 (.p (extF (tt 25) 1)) [pp 25],
 mv 7 28,
 mv 8 29]) (
 .seq (.seq (.reg [
 mv 30 8,
 qo 31 (.p (eqcF true false [.int .i64] (tt 30) (ii 0))) [pp 30]]) (
 .cond (tt 31) (.seq (.reg [
 mv 32 8,
 qo 2 (.p (S.get (.c (.ptr none)))) [],
 mv 3 32]) (
 .ret)) (.skip))) (
 .reg [
 mv 33 4,
 mv 34 4,
 qo 35 (.p (nilcF (tt 34))) [pp 34],
 qo 36 (.p (faddrF (tt 35) 0)) [pp 35],
 qo 37 (.r (loadF (tt 36) 1 .sc)) [pp 36],
 mv 38 7,
 qo 39 (.m (bsliceF 1 1 [.ptr none] [(0, 1, (tt 38))])) [pp 38],
 qo 40 (.a (appF 1 8 (tt 37) (tt 39))) [pp 37, pp 39],
 qo 41 (.p (nilcF (tt 33))) [pp 33],
 qo 42 (.p (faddrF (tt 41) 0)) [pp 41],
 qn (.a (storeF (tt 42) (tt 40) 1)) [pp 42, pp 40]]))))) (
 .reg [
 qo 43 (.p (arF .add (tt 21) (ii 1))) [pp 21],
 mv 21 43])))
/-- ashlar/bench.New -/
noncomputable def c24 : CFn := ⟨[.tmp (pp 2), .tmp (pp 3)],
 .seq (.reg [
 qo 2 (.p (S.get (.c (.ptr none)))) [],
 qo 3 (.p (S.get (ii 0))) []]) (
 .seq (.seq (.reg [
 mv 9 0,
 qo 10 (.p (lenF (tt 9))) [pp 9],
 qo 11 (.p (arF .lss (tt 10) (ii 1))) [pp 10],
 mv 12 11,
 mg 13 0 12 false,
 qg 14 (.p (lenF (tt 13))) 12 false [pp 13],
 qg 15 (.p (arF .gtr (tt 14) (ii 17))) 12 false [pp 14],
 qo 16 (.p (pickF (tt 12) (.c (.bool true)) (tt 15))) [pp 12, pp 15]]) (
 .cond (tt 16) (.seq (.reg [
 qo 2 (.p (S.get (.c (.ptr none)))) [],
 qo 3 (.p (S.get (ii 2))) []]) (
 .ret)) (.skip))) (
 .seq (.reg [
 qo 17 (.p (buildF [.slice none 0 0 0, .int .i64 0, .int .i64 0, .bool false] .ag [])) [],
 qo 18 (.m (boxF 4 (tt 17))) [pp 17],
 mv 4 18]) (
 .seq (.seq (.reg [
 mv 19 0,
 qo 20 (.p (lenF (tt 19))) [pp 19],
 qo 21 (.p (S.get (ii 0))) []]) (
 .block 0 (.loop c24_l0))) (
 .seq (.reg [
 mv 44 4,
 mv 2 44,
 qo 3 (.p (S.get (ii 0))) []]) (
 .ret)))))⟩
theorem c24_eq : fnOf Tryz.prog 24 = some c24 := by kernel_rfl


def ptrRows (l : List Dv) : List (List V) := l.map fun x => [.ptr (some ⟨x.b, 0⟩)]

theorem app_ptr {H : Heap} {p : Option Ptr} {o : Nat} {l : List Dv} {x c : Bk} (h0 : l = [] → p = none ∧ o = 0) (h1 : l ≠ [] → ∃ ds, p = some ⟨ds, 0⟩ ∧ o = 1 ∧ H.get ds = some (.rows false 1 (ptrRows l))) (hx : H.get x = some (.rows false 1 [[.ptr (some ⟨c, 0⟩)]])) (hmax : l.length < 1000000) :
    appendV 1 8 H (.slice p l.length l.length o) (.slice (some ⟨x, 0⟩) 1 1 0) = some (.slice (some ⟨.run H.next, 0⟩) (l.length + 1) (l.length + 1) 1, (killP H p).add (.rows false 1 (ptrRows l ++ [[.ptr (some ⟨c, 0⟩)]]))) := by
  have he : elems H x 1 1 0 = some [[.ptr (some ⟨c, 0⟩)]] := by
    simp only [elems]
    rw [loadAt_eq hx (r := [.ptr (some ⟨c, 0⟩)]) rfl]
    rfl
  by_cases hP : l = []
  · obtain ⟨rfl, rfl⟩ := h0 hP
    subst hP
    simp only [appendV, lenOf, nbeq, nble, firstE, he]
    simp [elems, ptrRows, killP]
  · obtain ⟨d, rfl, rfl, hg⟩ := h1 hP
    have hlen : (ptrRows l).length = l.length := by simp [ptrRows]
    simp only [appendV, lenOf, nbeq, nble, firstE, he, hg]
    have e1 : (l.length + 1) * 8 ≤ 1099511627776 := by omega
    have e2 : l.length + 1 ≤ 1099511627776 := by omega
    simp [mul_eq, add_eq, div_eq, e1, e2, hlen, killP, Nat.mod_one]

/-- a list of devices that grows -/
structure Grow (H0 H : Heap) (b : Bk) (p : Option Ptr) (o : Nat) (l : List Dv) (r1 r2 r3 : V) : Prop where
  own : H.get b = some (.rows false 4 [[.slice p l.length l.length o, r1, r2, r3]])
  nil : l = [] → p = none ∧ o = 0
  ptrs : l ≠ [] → ∃ ds, p = some ⟨ds, 0⟩ ∧ o = 1 ∧ H.get ds = some (.rows false 1 (ptrRows l)) ∧ H.Old ds ∧ ds ≠ b ∧ ¬ H0.Old ds ∧ ∀ x ∈ l, ¬ x.foot ds
  dev : ∀ x ∈ l, DevAt H x.b x.y x.D
  sep : l.Pairwise fun x z => Sep x.b x.y x.D z.b z.y z.D
  out : ∀ x ∈ l, ¬ x.foot b
  old : H.Old b
  new : ¬ H0.Old b
  fresh : ∀ x ∈ l, Fresh H0 x.b x.y x.D
  t : Turns Z H0 H

theorem killP_turns (H : Heap) {p : Option Ptr} {X : Bk → Prop} (h : ∀ q, p = some q → X q.b) : Turns X H (killP H p) := by
  cases p with
  | none => exact Turns.refl X H
  | some q => exact Turns.set (h q rfl) _ _
theorem killP_next (H : Heap) (p : Option Ptr) : (killP H p).next = H.next := by cases p <;> rfl

theorem Grow.load {H0 H H1 : Heap} {b : Bk} {p : Option Ptr} {o : Nat} {l : List Dv} {r1 r2 r3 : V} (h : Grow H0 H b p o l r1 r2 r3) (t : Turns Z H H1) : loadAt H1 ⟨b, 0⟩ 1 = some [.slice p l.length l.length o] := by
  rw [loadAt_eq ((t.same _ h.old id).trans h.own) (r := [.slice p l.length l.length o, r1, r2, r3]) rfl]; rfl

/-- one more -/
theorem Grow.step {H0 H H1 : Heap} {b : Bk} {p : Option Ptr} {o : Nat} {l : List Dv} {r1 r2 r3 : V} (h : Grow H0 H b p o l r1 r2 r3) (t : Turns Z H H1) {c : Bk} {y : Lay} {D : Dev} (hD : DevAt H1 c y D) (hF : Fresh H c y D) (hmax : l.length < 1000000) :
    ∃ H3 H4 ds, appendV 1 8 (H1.add (.rows false 1 [[.ptr (some ⟨c, 0⟩)]])) (.slice p l.length l.length o) (.slice (some ⟨.run H1.next, 0⟩) 1 1 0) = some (.slice (some ⟨ds, 0⟩) (l.length + 1) (l.length + 1) 1, H3) ∧
      storeAt H3 ⟨b, 0⟩ [.slice (some ⟨ds, 0⟩) (l.length + 1) (l.length + 1) 1] = some H4 ∧ Grow H0 H4 b (some ⟨ds, 0⟩) 1 (l ++ [⟨c, y, D⟩]) r1 r2 r3 := by
  have t2 : Turns Z H (H1.add (.rows false 1 [[.ptr (some ⟨c, 0⟩)]])) := t.addm _
  have hx : (H1.add (.rows false 1 [[.ptr (some ⟨c, 0⟩)]])).get (.run H1.next) = some (.rows false 1 [[.ptr (some ⟨c, 0⟩)]]) := by rw [Heap.get_add, if_pos rfl]
  have hD2 := hD.turns (Turns.add Z H1 (.rows false 1 [[.ptr (some ⟨c, 0⟩)]])) id id (fun _ => id)
  have hn1 := t.next
  have hn2 : (H1.add (.rows false 1 [[.ptr (some ⟨c, 0⟩)]])).next = H1.next + 1 := rfl
  generalize H1.add (.rows false 1 [[.ptr (some ⟨c, 0⟩)]]) = H2 at t2 hx hD2 hn2
  have ha := app_ptr (H := H2) (x := .run H1.next) (c := c) h.nil (fun e => by
    obtain ⟨ds, h1, h2, h3, h4, _⟩ := h.ptrs e
    exact ⟨ds, h1, h2, (t2.same _ h4 id).trans h3⟩) hx hmax
  have hX : ∀ q, p = some q → H.Old q.b ∧ q.b ≠ b ∧ ¬ H0.Old q.b ∧ (∀ x ∈ l, ¬ x.foot q.b) := by
    intro q hq
    by_cases e : l = []
    · rw [(h.nil e).1] at hq; cases hq
    · obtain ⟨ds, h1, _, _, h4, h5, h6, h7⟩ := h.ptrs e
      rw [h1] at hq; cases hq
      exact ⟨h4, h5, h6, h7⟩
  have tk : Turns (fun c => ∃ q, p = some q ∧ c = q.b) H2 (killP H2 p) := killP_turns H2 (fun q hq => ⟨q, hq, rfl⟩)
  have hkn := killP_next H2 p
  have t3 := tk.addm (.rows false 1 (ptrRows l ++ [[.ptr (some ⟨c, 0⟩)]]))
  have hds : ((killP H2 p).add (.rows false 1 (ptrRows l ++ [[.ptr (some ⟨c, 0⟩)]]))).get (.run H2.next) = some (.rows false 1 (ptrRows l ++ [[.ptr (some ⟨c, 0⟩)]])) := by rw [Heap.get_add, if_pos (by rw [hkn])]
  have hdo : ((killP H2 p).add (.rows false 1 (ptrRows l ++ [[.ptr (some ⟨c, 0⟩)]]))).Old (.run H2.next) := by show _ < _; simp [hkn]
  generalize (killP H2 p).add (.rows false 1 (ptrRows l ++ [[.ptr (some ⟨c, 0⟩)]])) = H3 at ha t3 hds hdo
  have hb2 : H2.Old b := h.old.mono t2.next
  have hbk : ¬ ∃ q, p = some q ∧ b = q.b := fun ⟨q, hq, e⟩ => (hX q hq).2.1 e.symm
  have hown3 : H3.get b = some (.rows false 4 [[.slice p l.length l.length o, r1, r2, r3]]) := (t3.same _ hb2 hbk).trans ((t2.same _ h.old id).trans h.own)
  have hst : storeAt H3 ⟨b, 0⟩ [.slice (some ⟨.run H2.next, 0⟩) (l.length + 1) (l.length + 1) 1] = some (H3.set b (.rows false 4 [[.slice (some ⟨.run H2.next, 0⟩) (l.length + 1) (l.length + 1) 1, r1, r2, r3]])) := storeAt_eq hown3 (r := [.slice p l.length l.length o, r1, r2, r3]) rfl rfl
  have t4 : Turns (fun x => x = b) H3 (H3.set b (.rows false 4 [[.slice (some ⟨.run H2.next, 0⟩) (l.length + 1) (l.length + 1) 1, r1, r2, r3]])) := Turns.set (X := fun x => x = b) rfl _ _
  have hno : ¬ H2.Old (.run H2.next) := Heap.not_old (Nat.le_refl _)
  have hnb : (Bk.run H2.next) ≠ b := fun e => hno (by rw [e]; exact hb2)
  have cold := hD2.foot_old
  refine ⟨H3, _, .run H2.next, ha, hst, ⟨?_, fun e => absurd e (by simp), fun _ => ⟨.run H2.next, rfl, rfl, ?_, ?_, hnb, fun e => hno (e.mono (Nat.le_trans h.t.next t2.next)), ?_⟩, ?_, ?_, ?_, ?_, h.new, ?_, ?_⟩⟩
  · rw [Heap.get_set, if_pos rfl]; simp
  · rw [Heap.get_set, if_neg hnb, hds]; simp [ptrRows]
  · simp only [Heap.old_set]; exact hdo
  · intro x hx hf
    rcases List.mem_append.1 hx with hx | hx
    · exact hno ((h.dev x hx).foot_old _ hf |>.mono t2.next)
    · rw [List.mem_singleton.1 hx] at hf; exact hno (cold _ hf)
  · have key : ∀ (x : Dv), DevAt H2 x.b x.y x.D → (∀ q, p = some q → ¬ x.foot q.b) → ¬ x.foot b → DevAt (H3.set b (.rows false 4 [[.slice (some ⟨.run H2.next, 0⟩) (l.length + 1) (l.length + 1) 1, r1, r2, r3]])) x.b x.y x.D := by
      intro x hx hq hb
      have g := hx.turns t3 (fun ⟨q, hp, e⟩ => hq q hp (.inl e.symm)) (fun ⟨q, hp, e⟩ => hq q hp (.inr (.inl e.symm))) (fun hl ⟨q, hp, e⟩ => hq q hp (.inr (.inr ⟨hl, e.symm⟩)))
      exact g.turns t4 (fun e => hb (.inl e.symm)) (fun e => hb (.inr (.inl e.symm))) (fun hl e => hb (.inr (.inr ⟨hl, e.symm⟩)))
    intro x hx
    rcases List.mem_append.1 hx with hx | hx
    · exact key x ((h.dev x hx).turns t2 id id (fun _ => id)) (fun q hq => (hX q hq).2.2.2 x hx) (h.out x hx)
    · rw [List.mem_singleton.1 hx]
      exact key _ hD2 (fun q hq hf => hF.foot _ hf (hX q hq).1) (fun hf => hF.foot _ hf h.old)
  · rw [List.pairwise_append]
    refine ⟨h.sep, List.pairwise_singleton _ _, fun x hx z hz => ?_⟩
    rw [List.mem_singleton.1 hz]
    exact sep_fresh (h.dev x hx) hF
  · intro x hx
    rcases List.mem_append.1 hx with hx | hx
    · exact h.out x hx
    · rw [List.mem_singleton.1 hx]; exact fun hf => hF.foot _ hf h.old
  · simp only [Heap.old_set]; exact hb2.mono t3.next
  · intro x hx
    rcases List.mem_append.1 hx with hx | hx
    · exact h.fresh x hx
    · rw [List.mem_singleton.1 hx]
      exact ⟨fun e => hF.b (e.mono h.t.next), fun e => hF.s (e.mono h.t.next), fun hl e => hF.l hl (e.mono h.t.next)⟩
  · have ta := Turns.after (h.t.trans t2) t3 (fun x hx ⟨q, hq, e⟩ => (hX q hq).2.2.1 (by rw [← e]; exact hx))
    exact Turns.after ta t4 (fun x hx e => h.new (by rw [← e]; exact hx))

/-- a bench that is grown -/
theorem Grow.rep {H0 H : Heap} {b : Bk} {p : Option Ptr} {o : Nat} {l : List Dv} {r : Bool} {B : Bn} (h : Grow H0 H b p o l (n1 r B) (n2 r B) (n3 r B)) (hl : l ≠ []) (hm : l.map Dv.D = B.l) : ∃ ds, p = some ⟨ds, 0⟩ ∧ o = 1 ∧ Rep r H b ds 1 l B ∧ ∀ c, BFoot b ds l c → ¬ H0.Old c := by
  obtain ⟨ds, rfl, rfl, h3, h4, h5, h6, h7⟩ := h.ptrs hl
  refine ⟨ds, rfl, rfl, ⟨⟨h.own, h3, fun i hi => h.dev _ (List.getElem_mem hi), ?_, ⟨h.old, h4⟩, fun e => h5 e.symm, fun i hi => ⟨h.out _ (List.getElem_mem hi), h7 _ (List.getElem_mem hi)⟩⟩, hm⟩, ?_⟩
  · intro i j hi hj hij
    have hp := List.pairwise_iff_getElem.1 h.sep
    rcases Nat.lt_or_gt_of_ne hij with e | e
    · exact hp i j hi hj e
    · exact (hp j i hj hi e).symm
  · rintro c (rfl | rfl | ⟨x, hx, hc⟩)
    · exact h.new
    · exact h6
    · exact (h.fresh x hx).foot c hc

theorem dnew_err (H : Heap) {n : Int} (h : n < 1 ∨ 512 < n) (lf m : Nat) : callS Tryz.prog S0 lf (m + 1) 73 [.int .i64 n] H = some (.v (.tuple [.ptr none, .int .i64 2]), H) := by
  obtain ⟨v, H', e, rfl, rfl⟩ : ret (callS Tryz.prog S0 lf (m + 1) 73 [.int .i64 n] H) fun v H' => v = .tuple [.ptr none, .int .i64 2] ∧ H' = H := by
    refine ret_call rfl c73_eq ?_
    by_cases h1 : n < 1
    · simp only [c73, h1, sy, tup, ↓reduceIte, Nat.reduceEqDiff, Nat.reduceAdd, Nat.reduceSub, Nat.reduceMul, Nat.reduceDiv, Nat.reduceMod, Nat.reduceLeDiff, Int.reduceBEq, reduceCtorEq]
      exact ⟨trivial, .inr trivial, _, rfl, rfl, trivial⟩
    · have h2 : 512 < n := by omega
      simp only [c73, h1, h2, sy, tup, ↓reduceIte, Nat.reduceEqDiff, Nat.reduceAdd, Nat.reduceSub, Nat.reduceMul, Nat.reduceDiv, Nat.reduceMod, Nat.reduceLeDiff, Int.reduceBEq, reduceCtorEq]
      exact ⟨trivial, .inr trivial, _, rfl, rfl, trivial⟩
  exact e

def okSizes (P : List Int) : Prop := 1 ≤ P.length ∧ P.length ≤ 17 ∧ ∀ n ∈ P, 1 ≤ n ∧ n ≤ 512
def newB (P : List Int) : Bn := ⟨P.map fun n => blank n.toNat, 0, 0, false⟩

theorem grow0 (H : Heap) (r1 r2 r3 : V) : Grow H (H.add (.rows false 4 [[.slice none 0 0 0, r1, r2, r3]])) (.run H.next) none 0 [] r1 r2 r3 :=
  ⟨by rw [Heap.get_add, if_pos rfl]; rfl, fun _ => ⟨rfl, rfl⟩, fun e => absurd rfl e, fun x hx => absurd hx (by simp), List.Pairwise.nil, fun x hx => absurd hx (by simp), by show _ < _; simp, Heap.not_old (Nat.le_refl _), fun x hx => absurd hx (by simp), Turns.add Z H _⟩

/-- what New answers -/
def Newed (r : Bool) (P : List Int) (H : Heap) (v : V) (H' : Heap) : Prop :=
  Turns Z H H' ∧ ((¬ okSizes P ∧ v = .tuple [.ptr none, .int .i64 2]) ∨ (okSizes P ∧ ∃ b ds l, v = .tuple [.ptr (some ⟨b, 0⟩), .int .i64 0] ∧ Rep r H' b ds 1 l (newB P) ∧ ∀ c, BFoot b ds l c → ¬ H.Old c))

theorem bnew_all (H : Heap) {pp : Option Ptr} {P : List Int} {pc po : Nat} (hP : PicksAt H pp P Z) {lf : Nat} (hlf : 1000 < lf) (m : Nat) :
    ret (callS Tryz.prog S0 lf (m + 2) 24 [.slice pp P.length pc po] H) (Newed false P H) := by
  refine ret_call rfl c24_eq ?_
  by_cases hlen : 1 ≤ P.length ∧ P.length ≤ 17
  · obtain ⟨g1, g2⟩ := hlen
    have g1' : ¬ ((P.length : Int) < 1) := by omega
    have g2' : ¬ (17 < (P.length : Int)) := by omega
    have G0 := grow0 H (.int .i64 0) (.int .i64 0) (.bool false)
    have hloop : ∀ t : T, t.getP (Tr.path 4) = some (.ptr (some ⟨.run H.next, 0⟩)) → t.getP (Tr.path 19) = some (.slice pp P.length pc po) → t.getP (Tr.path 20) = some (.int .i64 (P.length : Int)) → t.getP (Tr.path 21) = some (.int .i64 0) →
        wp (loopF (runC (callS Tryz.prog S0 lf (m + 1)) lf c24_l0) lf ⟨t, H.add (.rows false 4 [[.slice none 0 0 0, .int .i64 0, .int .i64 0, .bool false]]), []⟩) fun x s =>
          s.d = [] ∧ ((x = .ret ∧ ¬ okSizes P ∧ s.t.getP (Tr.path 2) = some (.ptr none) ∧ s.t.getP (Tr.path 3) = some (.int .i64 2) ∧ Turns Z H s.H) ∨ (x = .ex 0 ∧ s.t.getP (Tr.path 4) = some (.ptr (some ⟨.run H.next, 0⟩)) ∧ okSizes P ∧ ∃ p o l, Grow H s.H (.run H.next) p o l (.int .i64 0) (.int .i64 0) (.bool false) ∧ l.map Dv.D = P.map (fun n => blank n.toNat))) := by
      intro t q4 q19 q20 q21
      refine wp_loopF (fun k s => ∃ i p o l, i + k = P.length ∧ s.d = [] ∧ s.t.getP (Tr.path 4) = some (.ptr (some ⟨.run H.next, 0⟩)) ∧ s.t.getP (Tr.path 19) = some (.slice pp P.length pc po) ∧ s.t.getP (Tr.path 20) = some (.int .i64 (P.length : Int)) ∧ s.t.getP (Tr.path 21) = some (.int .i64 ((i : Nat) : Int)) ∧ Grow H s.H (.run H.next) p o l (.int .i64 0) (.int .i64 0) (.bool false) ∧ l.map Dv.D = (P.take i).map (fun n => blank n.toNat) ∧ ∀ n ∈ P.take i, 1 ≤ n ∧ n ≤ 512) ?_ lf P.length _ ⟨0, none, 0, [], by omega, rfl, q4, q19, q20, q21, G0, rfl, fun n hn => absurd hn (by simp)⟩ (by omega)
      rintro k ⟨t, HH, d⟩ ⟨i, p, o, l, hi, rfl, q4, q19, q20, q21, hG, hm, hok⟩
      dsimp only at q4 q19 q20 q21 hG
      by_cases hiP : i < P.length
      · obtain ⟨x, ox, hpx, l1⟩ := (hP.turns hG.t).load hiP
        rw [hpx] at q19
        have hi1 : i + 1 ≤ P.length := hiP
        have hw : IntKind.i64.wrap ((i : Int) + 1) = ((i + 1 : Nat) : Int) := by rw [wrap_i64 (by omega)]; rfl
        have hw' : IntKind.i64.wrap ((i : Int) + 1) = (i : Int) + 1 := wrap_i64 (by omega)
        by_cases hn : 1 ≤ P[i] ∧ P[i] ≤ 512
        · obtain ⟨v, H1, e1, rfl, hD, t1⟩ := new_ok HH (n := P[i].toNat) (by omega) (by omega) lf m
          rw [show ((P[i].toNat : Nat) : Int) = P[i] from by omega] at e1
          have hF : Fresh HH (.run (HH.next + 1)) ⟨.run HH.next, 0, .run HH.next, none, 0⟩ (blank P[i].toNat) := ⟨Heap.not_old (by omega), Heap.not_old (Nat.le_refl _), fun e => absurd rfl e⟩
          have hll : l.length = i := by have := congrArg List.length hm; simpa [Nat.min_eq_left (Nat.le_of_lt hiP)] using this
          obtain ⟨H3, H4, ds, ha, hs, hG'⟩ := hG.step t1 hD hF (by omega)
          have l0 := hG.load t1
          have l0' := hG.load (t1.addm (.rows false 1 [[.ptr (some ⟨.run (HH.next + 1), 0⟩)]]))
          simp only [c24_l0, q4, q19, q20, q21, hiP, hi1, l1, e1, l0, l0', ha, hs, hw', Nat.mul_one, sy, tup, ↓reduceIte, Nat.reduceEqDiff, Nat.reduceAdd, Nat.reduceSub, Nat.reduceMul, Nat.reduceDiv, Nat.reduceMod, Nat.reduceLeDiff, Int.reduceBEq, reduceCtorEq]
          refine ⟨k - 1, by omega, i + 1, _, _, _, by omega, trivial, trivial, by rw [hpx], trivial, rfl, hG', ?_, ?_⟩
          · rw [List.map_append, hm, List.take_succ_eq_append_getElem hiP, List.map_append]; rfl
          · rw [List.take_succ_eq_append_getElem hiP]
            intro z hz
            rcases List.mem_append.1 hz with hz | hz
            · exact hok z hz
            · rw [List.mem_singleton.1 hz]; exact hn
        · have e1 := dnew_err HH (n := P[i]) (by omega) lf m
          have hbad : ¬ okSizes P := fun h => hn (h.2.2 _ (List.getElem_mem hiP))
          simp only [c24_l0, q4, q19, q20, q21, hiP, hi1, l1, e1, Nat.mul_one, sy, tup, ↓reduceIte, Nat.reduceEqDiff, Nat.reduceAdd, Nat.reduceSub, Nat.reduceMul, Nat.reduceDiv, Nat.reduceMod, Nat.reduceLeDiff, Int.reduceBEq, reduceCtorEq]
          exact ⟨trivial, .inl ⟨trivial, hbad, trivial, trivial, hG.t⟩⟩
      · have hg : ¬ (i < P.length) := hiP
        have hiL : P.take i = P := List.take_of_length_le (by omega)
        rw [hiL] at hm hok
        simp only [c24_l0, q4, q19, q20, q21, hg, sy, tup, ↓reduceIte, Nat.reduceEqDiff, Nat.reduceAdd, Nat.reduceSub, Nat.reduceMul, Nat.reduceDiv, Nat.reduceMod, Nat.reduceLeDiff, Int.reduceBEq, reduceCtorEq]
        refine ⟨trivial, .inr ⟨trivial, trivial, ⟨g1, g2, hok⟩, p, o, l, hG, hm⟩⟩
    simp only [c24, g1', g2', sy, tup, ↓reduceIte, Nat.reduceEqDiff, Nat.reduceAdd, Nat.reduceSub, Nat.reduceMul, Nat.reduceDiv, Nat.reduceMod, Nat.reduceLeDiff, Int.reduceBEq, reduceCtorEq]
    refine wp_ctx (F := fun r => seqC _ _ _ (blockC _ r)) (hloop _ ?_ ?_ ?_ ?_) ?_
    · simp only [sy, tup, ↓reduceIte, Nat.reduceEqDiff, Nat.reduceAdd, Nat.reduceSub, Nat.reduceMul, Nat.reduceDiv, Nat.reduceMod, Nat.reduceLeDiff, Int.reduceBEq, reduceCtorEq]
    · simp only [sy, tup, ↓reduceIte, Nat.reduceEqDiff, Nat.reduceAdd, Nat.reduceSub, Nat.reduceMul, Nat.reduceDiv, Nat.reduceMod, Nat.reduceLeDiff, Int.reduceBEq, reduceCtorEq]
    · simp only [sy, tup, ↓reduceIte, Nat.reduceEqDiff, Nat.reduceAdd, Nat.reduceSub, Nat.reduceMul, Nat.reduceDiv, Nat.reduceMod, Nat.reduceLeDiff, Int.reduceBEq, reduceCtorEq]
    · simp only [sy, tup, ↓reduceIte, Nat.reduceEqDiff, Nat.reduceAdd, Nat.reduceSub, Nat.reduceMul, Nat.reduceDiv, Nat.reduceMod, Nat.reduceLeDiff, Int.reduceBEq, reduceCtorEq]
    rintro x ⟨t, HH, d⟩ ⟨rfl, ⟨rfl, hbad, q2, q3, hT⟩ | ⟨rfl, q4, hok, p, o, l, hG, hm⟩⟩
    · dsimp only at q2 q3 hT
      simp only [q2, q3, sy, tup, ↓reduceIte, Nat.reduceEqDiff, Nat.reduceAdd, Nat.reduceSub, Nat.reduceMul, Nat.reduceDiv, Nat.reduceMod, Nat.reduceLeDiff, Int.reduceBEq, reduceCtorEq]
      exact ⟨trivial, .inr trivial, _, rfl, hT, .inl ⟨hbad, rfl⟩⟩
    · dsimp only at q4 hG
      have hl : l ≠ [] := fun e => by
        have := congrArg List.length hm
        rw [e] at this; simp at this; omega
      obtain ⟨ds, rfl, rfl, hR, hN⟩ := Grow.rep (r := false) (B := newB P) hG hl hm
      simp only [q4, sy, tup, ↓reduceIte, Nat.reduceEqDiff, Nat.reduceAdd, Nat.reduceSub, Nat.reduceMul, Nat.reduceDiv, Nat.reduceMod, Nat.reduceLeDiff, Int.reduceBEq, reduceCtorEq]
      exact ⟨trivial, .inr trivial, _, rfl, hG.t, .inr ⟨hok, _, ds, l, rfl, hR, hN⟩⟩
  · have hbad : ¬ okSizes P := fun h => hlen ⟨h.1, h.2.1⟩
    by_cases g1 : (P.length : Int) < 1
    · simp only [c24, g1, sy, tup, ↓reduceIte, Nat.reduceEqDiff, Nat.reduceAdd, Nat.reduceSub, Nat.reduceMul, Nat.reduceDiv, Nat.reduceMod, Nat.reduceLeDiff, Int.reduceBEq, reduceCtorEq]
      exact ⟨trivial, .inr trivial, _, rfl, Turns.refl Z H, .inl ⟨hbad, rfl⟩⟩
    · have g2 : 17 < (P.length : Int) := by omega
      simp only [c24, g1, g2, sy, tup, ↓reduceIte, Nat.reduceEqDiff, Nat.reduceAdd, Nat.reduceSub, Nat.reduceMul, Nat.reduceDiv, Nat.reduceMod, Nat.reduceLeDiff, Int.reduceBEq, reduceCtorEq]
      exact ⟨trivial, .inr trivial, _, rfl, Turns.refl Z H, .inl ⟨hbad, rfl⟩⟩

end Go.Proofs.YtpmdbbdidafehaaGreat.disk


/-
  A bench and what it keeps behind each step.
-/
set_option linter.unusedVariables false
set_option linter.unusedSectionVars false
set_option linter.unusedSimpArgs false
set_option maxRecDepth 10000
namespace Go.Proofs.YtpmdbbdidafehaaGreat.disk
open Go.Am

structure Bok (k : Nat) (B : Bn) : Prop where
  wf : ∀ D ∈ B.l, ∃ n, n ≤ 512 ∧ Wf D n k
  ar : 0 ≤ B.ar ∧ B.ar ≤ 9223372036854775807
  st : 0 ≤ B.st ∧ B.st ≤ (k : Int)

theorem Bok.good {k : Nat} {B : Bn} (h : Bok k B) (hk : k ≤ 900) : ∀ D ∈ B.l, Good D := fun D hD => by
  obtain ⟨n, hn, w⟩ := h.wf D hD
  exact ⟨w.ne, w.ok, by rw [w.len]; exact hn, by have := w.le; omega⟩
theorem Bok.mono {k : Nat} {B : Bn} (h : Bok k B) : Bok (k + 1) B := ⟨fun D hD => by
  obtain ⟨n, hn, w⟩ := h.wf D hD
  exact ⟨n, hn, w.mono⟩, h.ar, by have := h.st; omega⟩

theorem tc_dev {B : Bn} {d : Int} (h : B.tc d = 0) : B.dev d ∈ B.l := by
  unfold Bn.tc at h
  rcases tcode_cases B.l.length d with ⟨i, hi, rfl, _⟩ | e
  · unfold Bn.dev
    simp only [Int.toNat_natCast, List.getD]
    rw [List.getElem?_eq_getElem hi]
    exact List.getElem_mem hi
  · rw [e] at h; cases h
theorem lc_tc {B : Bn} {d : Int} (h : B.lc d = 0) : B.tc d = 0 := by
  unfold Bn.lc at h
  split at h
  · cases h
  · exact h
theorem rc_lc {B : Bn} {d n : Int} (h : B.rc d n = 0) : B.lc d = 0 := by
  by_cases e : B.lc d = 0
  · exact e
  · rw [show B.rc d n = B.lc d from if_neg e] at h; exact absurd h e

theorem Bok.setd {k : Nat} {B : Bn} (h : Bok k B) {d : Int} {D : Dev} (hD : ∃ n, n ≤ 512 ∧ Wf D n (k + 1)) : Bok (k + 1) (B.setd d D) :=
  ⟨fun E hE => by
    rcases List.mem_or_eq_of_mem_set hE with hE | rfl
    · exact h.mono.wf E hE
    · exact hD, h.ar, h.mono.st⟩
theorem Bok.step {k : Nat} {B : Bn} (h : Bok k B) {d : Int} {D : Dev} (hD : ∃ n, n ≤ 512 ∧ Wf D n (k + 1)) : Bok (k + 1) (B.step d D) := by
  unfold Bn.step
  have h1 := h.st
  have h2 := h.ar
  split
  · exact ⟨h.mono.wf, h.ar, h.mono.st⟩
  · refine ⟨fun E hE => ?_, ?_, ?_⟩
    · rcases List.mem_or_eq_of_mem_set hE with hE | rfl
      · exact h.mono.wf E hE
      · exact hD
    · show 0 ≤ arLess B.ar ∧ arLess B.ar ≤ _
      unfold arLess; split <;> omega
    · show 0 ≤ B.st + 1 ∧ B.st + 1 ≤ _
      omega
theorem Bok.write {k : Nat} {B : Bn} (h : Bok k B) (d n : Int) (x : Nat) : Bok (k + 1) (B.write d n x) := by
  unfold Bn.write
  split
  · rename_i hc
    obtain ⟨n', hn, w⟩ := h.wf _ (tc_dev (lc_tc (rc_lc hc)))
    exact h.step ⟨n', hn, w.write n x⟩
  · exact h.mono
theorem Bok.flush {k : Nat} {B : Bn} (h : Bok k B) (d : Int) : Bok (k + 1) (B.flush d) := by
  unfold Bn.flush
  split
  · rename_i hc
    obtain ⟨n', hn, w⟩ := h.wf _ (tc_dev (lc_tc (rc_lc hc)))
    exact h.step ⟨n', hn, w.flush⟩
  · exact h.mono
theorem Bok.fail {k : Nat} {B : Bn} (h : Bok k B) (d : Int) : Bok (k + 1) (B.fail d) := by
  unfold Bn.fail
  split
  · rename_i hc
    obtain ⟨n', hn, w⟩ := h.wf _ (tc_dev hc)
    exact h.setd ⟨n', hn, w.fail⟩
  · exact h.mono
theorem blank_wf {n k : Nat} (h : 0 < n) : Wf (blank n) n k := ⟨by simp [blank], h, fun w hw => absurd hw (by simp [blank]), Nat.zero_le _⟩
theorem Bok.insert {k : Nat} {B : Bn} (h : Bok k B) (d : Int) : Bok (k + 1) (B.insert d) := by
  unfold Bn.insert
  split
  · rename_i hc
    have hl : B.lc d = 0 := by
      by_cases e : B.lc d = 0
      · exact e
      · rw [show B.ic d = B.lc d from if_neg e] at hc; exact absurd hc e
    obtain ⟨n', hn, w⟩ := h.wf _ (tc_dev (lc_tc hl))
    have hp : 0 < (B.dev d).S.length := by rw [w.len]; exact w.pos
    exact h.setd ⟨_, by rw [w.len]; exact hn, blank_wf hp⟩
  · exact h.mono
theorem Bok.arm {k : Nat} {B : Bn} (h : Bok k B) {n : Int} (hn : n ≤ 9223372036854775807) : Bok (k + 1) (B.arm n) := by
  unfold Bn.arm
  split
  · rename_i hc
    have h0 : ¬ n < 0 := by
      intro e
      unfold Bn.ac at hc
      split at hc
      · cases hc
      · simp_all
    exact ⟨h.mono.wf, ⟨by show 0 ≤ n; omega, hn⟩, h.mono.st⟩
  · exact h.mono
theorem Bok.rot {k : Nat} {B : Bn} (h : Bok k B) (d n j : Int) (x : Nat) : Bok (k + 1) (B.rot d n j x) := by
  unfold Bn.rot
  split
  · rename_i hc
    obtain ⟨n', hn, w⟩ := h.wf _ (tc_dev hc)
    exact h.setd ⟨n', hn, w.rot n j x⟩
  · exact h.mono
theorem okNew {P : List Int} (h : okSizes P) : Bok 0 (newB P) :=
  ⟨fun D hD => by
    obtain ⟨n, hn, rfl⟩ := List.mem_map.1 hD
    have := h.2.2 n hn
    exact ⟨n.toNat, by omega, blank_wf (by omega)⟩, ⟨by show (0 : Int) ≤ 0; decide, by show (0 : Int) ≤ _; decide⟩, ⟨by show (0 : Int) ≤ 0; decide, by show (0 : Int) ≤ _; decide⟩⟩

theorem step_len (B : Bn) (d : Int) (D : Dev) : (B.step d D).l.length = B.l.length := by unfold Bn.step; split <;> simp
theorem setd_len (B : Bn) (d : Int) (D : Dev) : (B.setd d D).l.length = B.l.length := by simp [Bn.setd]
theorem write_len (B : Bn) (d n : Int) (x : Nat) : (B.write d n x).l.length = B.l.length := by unfold Bn.write; split <;> simp [step_len]
theorem flush_len (B : Bn) (d : Int) : (B.flush d).l.length = B.l.length := by unfold Bn.flush; split <;> simp [step_len]
theorem fail_len (B : Bn) (d : Int) : (B.fail d).l.length = B.l.length := by unfold Bn.fail; split <;> simp [setd_len]
theorem insert_len (B : Bn) (d : Int) : (B.insert d).l.length = B.l.length := by unfold Bn.insert; split <;> simp [setd_len]
theorem rot_len (B : Bn) (d n j : Int) (x : Nat) : (B.rot d n j x).l.length = B.l.length := by unfold Bn.rot; split <;> simp [setd_len]
theorem arm_len (B : Bn) (n : Int) : (B.arm n).l.length = B.l.length := by unfold Bn.arm; split <;> rfl

/-- a bench of one's own: nothing of it lay in the first heap -/
structure Mine (r : Bool) (H0 H : Heap) (b ds : Bk) (so : Nat) (l : List Dv) (B : Bn) : Prop where
  rep : Rep r H b ds so l B
  t : Turns Z H0 H
  new : ∀ c, BFoot b ds l c → ¬ H0.Old c

theorem Mine.turns {r : Bool} {H0 H H' : Heap} {b ds : Bk} {so : Nat} {l : List Dv} {B : Bn} (h : Mine r H0 H b ds so l B) (k : Turns Z H H') : Mine r H0 H' b ds so l B := ⟨h.rep.turns k, h.t.trans k, h.new⟩
theorem Mine.next {r : Bool} {H0 H H' : Heap} {b ds : Bk} {so : Nat} {l l' : List Dv} {B B' : Bn} (h : Mine r H0 H b ds so l B) (k : RNext r H b ds so l H' l' B') : Mine r H0 H' b ds so l' B' :=
  ⟨k.rep, Turns.after h.t k.turns (fun c hc hx => (h.new c hx hc).elim), fun c hc => by
    rcases k.foot c hc with hc | hc
    · exact h.new c hc
    · exact fun o => hc (o.mono h.t.next)⟩
theorem Mine.ne {r : Bool} {H0 H : Heap} {b ds : Bk} {so : Nat} {l : List Dv} {B : Bn} (h : Mine r H0 H b ds so l B) (hB : 0 < B.l.length) : l ≠ [] := fun e => by
  have := h.rep.len
  rw [e] at this; simp at this; omega

end Go.Proofs.YtpmdbbdidafehaaGreat.disk


/-
  A bench and a cut: the picks are taken device by device.
-/
set_option linter.unusedVariables false
set_option linter.unusedSectionVars false
set_option linter.unusedSimpArgs false
set_option maxRecDepth 10000
namespace Go.Proofs.YtpmdbbdidafehaaGreat.disk
open Go.Am



def dropP (pp : Option Ptr) (pc n : Nat) : Option Ptr := if pc = n then pp else pp.map fun p => ⟨p.b, p.o + n⟩

theorem sliceF_lo {x lo : S} {t : T} {p : Option Ptr} {len cap n : Nat} (hx : x.get t = some (.slice p len cap 0)) (hlo : lo.get t = some (.int .i64 (n : Int))) (hn : n ≤ len) (hc : len ≤ cap) : sliceF 1 x (some lo) none none t = some (.slice (dropP p cap n) (len - n) (cap - n) 0) := by
  have hb : bounds len cap (some (.int .i64 (n : Int))) none none = some (n, len, cap) := by
    simp only [bounds, boundD, bound, asNat_int, nble]
    simp [hn, hc]
  unfold sliceF
  simp only [hx, hlo, oget, Option.map_some, nbeq, beq_self_eq_true, hb]
  unfold dropP
  by_cases e : cap = n
  · simp [e]
  · have : (cap == n) = false := by simp; exact e
    simp [this, e, mul_eq, add_eq, sub_eq]

theorem PicksAt.drop {H : Heap} {pp : Option Ptr} {P : List Int} {X : Bk → Prop} (h : PicksAt H pp P X) {pc : Nat} (hc : P.length ≤ pc) (n : Nat) : PicksAt H (dropP pp pc n) (P.drop n) X := ⟨fun e => by
  have hn : n < P.length := by
    by_cases hn : n < P.length
    · exact hn
    · exact absurd (List.drop_eq_nil_of_le (by omega)) e
  obtain ⟨x, ox, ro, rows, rfl, ho, hx, hg, hr⟩ := h.has (fun e => by rw [e] at hn; simp at hn)
  refine ⟨x, ox + n, ro, rows, by unfold dropP; rw [if_neg (by omega)]; rfl, ho, hx, hg, fun i hi => ?_⟩
  have hi' : n + i < P.length := by simp at hi; omega
  rw [Nat.add_assoc, hr (n + i) hi']
  simp⟩
theorem PicksAt.mono {H : Heap} {pp : Option Ptr} {P : List Int} {X Y : Bk → Prop} (h : PicksAt H pp P X) (hY : ∀ c, Y c → X c) : PicksAt H pp P Y := ⟨fun e => by
  obtain ⟨x, ox, ro, rows, h1, ho, hx, hg, hr⟩ := h.has e
  exact ⟨x, ox, ro, rows, h1, ho, fun hc => hx (hY _ hc), hg, hr⟩⟩
theorem PicksAt.rnext {r : Bool} {H H' : Heap} {b ds : Bk} {so : Nat} {l l' : List Dv} {B' : Bn} {pp : Option Ptr} {P : List Int} (h : PicksAt H pp P (BFoot b ds l)) (k : RNext r H b ds so l H' l' B') : PicksAt H' pp P (BFoot b ds l') := ⟨fun e => by
  obtain ⟨x, ox, ro, rows, h1, ho, hx, hg, hr⟩ := h.has e
  refine ⟨x, ox, ro, rows, h1, ho.mono k.turns.next, fun hc => ?_, (k.turns.same _ ho hx).trans hg, hr⟩
  rcases k.foot _ hc with hc | hc
  · exact hx hc
  · exact hc ho⟩

theorem RNext.trans {r : Bool} {H H1 H2 : Heap} {b ds : Bk} {so : Nat} {l l1 l2 : List Dv} {B1 B2 : Bn} (h : RNext r H b ds so l H1 l1 B1) (k : RNext r H1 b ds so l1 H2 l2 B2) : RNext r H b ds so l H2 l2 B2 :=
  ⟨k.rep, Turns.after h.turns k.turns (fun c hc hx => (h.foot c hx).elim id (fun e => absurd hc e)), fun c hc => by
    rcases k.foot c hc with hc | hc
    · exact h.foot c hc
    · exact .inr (fun o => hc (o.mono h.turns.next))⟩

def noDev : Dev := ⟨[], [], false⟩
/-- the picks that are left for a device, and how many were taken ahead of it -/
def pos (l : List Dev) (P : List Int) : Nat → Nat
  | 0 => 0
  | i + 1 => pos l P i + min (l.getD i noDev).L.length (P.drop (pos l P i)).length
theorem pos_le (l : List Dev) (P : List Int) : ∀ i, pos l P i ≤ P.length
  | 0 => Nat.zero_le _
  | i + 1 => by
    have := pos_le l P i
    simp only [pos, List.length_drop]
    omega
def crashAt (l : List Dev) (P : List Int) (i : Nat) : Dev := (l.getD i noDev).crash (P.drop (pos l P i))
def crashTo (l : List Dev) (P : List Int) (i : Nat) : List Dev := (List.range l.length).map fun j => if j < i then crashAt l P j else l.getD j noDev
theorem crashTo_length (l : List Dev) (P : List Int) (i : Nat) : (crashTo l P i).length = l.length := by simp [crashTo]
theorem crashTo_zero (l : List Dev) (P : List Int) : crashTo l P 0 = l := by
  apply List.ext_getElem
  · simp [crashTo]
  · intro n h1 h2
    simp [crashTo, List.getD, h2]
theorem crashTo_get {l : List Dev} {P : List Int} {i j : Nat} (hj : j < l.length) : (crashTo l P i)[j]'(by rw [crashTo_length]; exact hj) = if j < i then crashAt l P j else l[j] := by
  simp [crashTo, List.getD, hj]
theorem crashTo_succ {l : List Dev} {P : List Int} {i : Nat} : crashTo l P (i + 1) = (crashTo l P i).set i (crashAt l P i) := by
  apply List.ext_getElem
  · simp [crashTo]
  · intro n h1 h2
    have hn : n < l.length := by simpa [crashTo] using h1
    rw [crashTo_get hn, List.getElem_set]
    by_cases e : i = n
    · subst e; simp
    · rw [if_neg e, crashTo_get hn]
      by_cases h : n < i
      · rw [if_pos (by omega), if_pos h]
      · rw [if_neg (by omega), if_neg h]
theorem crashTo_all (l : List Dev) (P : List Int) : crashTo l P l.length = (List.range l.length).map (crashAt l P) := by
  unfold crashTo
  apply List.map_congr_left
  intro j hj
  rw [if_pos (List.mem_range.1 hj)]

def Bn.crash (B : Bn) (P : List Int) : Bn := ⟨crashTo B.l P B.l.length, B.st, 0, false⟩

theorem Bok.crash {k : Nat} {B : Bn} (h : Bok k B) (P : List Int) : Bok (k + 1) (B.crash P) := by
  refine ⟨fun D hD => ?_, ⟨by show (0 : Int) ≤ 0; decide, by show (0 : Int) ≤ _; decide⟩, h.mono.st⟩
  have hD : D ∈ crashTo B.l P B.l.length := hD
  rw [crashTo_all] at hD
  obtain ⟨j, hj, rfl⟩ := List.mem_map.1 hD
  have hj := List.mem_range.1 hj
  obtain ⟨n, hn, w⟩ := h.wf _ (List.getElem_mem hj)
  refine ⟨n, hn, ?_⟩
  unfold crashAt
  rw [List.getD_eq_getElem?_getD, List.getElem?_eq_getElem hj]
  exact w.crash _
theorem crash_len (B : Bn) (P : List Int) : (B.crash P).l.length = B.l.length := by show (crashTo _ _ _).length = _; rw [crashTo_length]

theorem DvsAt.turnsX {H H' : Heap} {b ds : Bk} {so : Nat} {l : List Dv} {r1 r2 r3 : V} (h : DvsAt H b ds so l r1 r2 r3) {X : Bk → Prop} (k : Turns X H H') (hX : ∀ c, BFoot b ds l c → ¬ X c) : DvsAt H' b ds so l r1 r2 r3 :=
  ⟨(k.same _ h.old.1 (hX _ (.inl rfl))).trans h.own, (k.same _ h.old.2 (hX _ (.inr (.inl rfl)))).trans h.ptrs, fun i hi => (h.dev i hi).turns k (hX _ (.inr (.inr ⟨_, List.getElem_mem hi, .inl rfl⟩))) (hX _ (.inr (.inr ⟨_, List.getElem_mem hi, .inr (.inl rfl)⟩))) (fun hl => hX _ (.inr (.inr ⟨_, List.getElem_mem hi, .inr (.inr ⟨hl, rfl⟩)⟩))), h.sep, ⟨h.old.1.mono k.next, h.old.2.mono k.next⟩, h.ne, h.out⟩
theorem Rep.foot_old {r : Bool} {H : Heap} {b ds : Bk} {so : Nat} {l : List Dv} {B : Bn} (h : Rep r H b ds so l B) : ∀ c, BFoot b ds l c → H.Old c := by
  rintro c (rfl | rfl | ⟨x, hx, hc⟩)
  · exact h.row.old.1
  · exact h.row.old.2
  · obtain ⟨i, hi, rfl⟩ := List.getElem_of_mem hx
    exact (h.row.dev i hi).foot_old _ hc
theorem Rep.turnsX {r : Bool} {H H' : Heap} {b ds : Bk} {so : Nat} {l : List Dv} {B : Bn} (h : Rep r H b ds so l B) {X : Bk → Prop} (k : Turns X H H') (hX : ∀ c, BFoot b ds l c → ¬ X c) : Rep r H' b ds so l B := ⟨h.row.turnsX k hX, h.map⟩
theorem Mine.turnsX {r : Bool} {H0 H H' : Heap} {b ds : Bk} {so : Nat} {l : List Dv} {B : Bn} (h : Mine r H0 H b ds so l B) {X : Bk → Prop} (k : Turns X H H') (hX : ∀ c, BFoot b ds l c → ¬ X c) (h0 : ∀ c, X c → ¬ H0.Old c) : Mine r H0 H' b ds so l B :=
  ⟨h.rep.turnsX k hX, Turns.after h.t k (fun c hc hx => absurd hc (h0 c hx)), h.new⟩

end Go.Proofs.YtpmdbbdidafehaaGreat.disk

