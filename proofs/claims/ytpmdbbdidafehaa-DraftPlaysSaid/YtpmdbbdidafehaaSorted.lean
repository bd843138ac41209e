/-
  'maps.Keys' and 'slices.Sorted' of this program: what the kit's contracts ask of its own bodies, and what they come to.
-/
import Derived.Test.YtpmdbbdidafehaaAmKeys
import Derived.Shelf.SlIterI.Nil
import Derived.Shelf.SortM.Plain
import Derived.Shelf.SortM.SortNone
import Derived.Test.YtpmdbbdidafehaaRows
set_option linter.unusedVariables false
namespace Go.Proofs.Ytpmdbbdidafehaa.sorted
open Go.RowKit Go.Maps Go.Sort Go.Shelf Go.Am

def keysA_ren : Go.Shelf.Ren := ⟨fun | 7 => 48 | 10 => 84 | n => n, fun | 23 => 97 | 26 => 3 | 3 => 35 | 28 => 103 | 0 => 0 | 27 => 102 | 33 => 147 | 4 => 4 | n => n, fun n => n⟩
theorem keysA : SlLaysZI.n7 Try.prog keysA_ren where
  mixed := by kernel_rfl
  f7 := ⟨"maps.Keys[map[int]ashlar/api.Block,int,ashlar/api.Block]", by decide, Try.func48.trans (congrArg some (by kernel_rfl))⟩
  f10 := ⟨"maps.Keys[map[int]ashlar/api.Block,int,ashlar/api.Block]$1", by decide, Try.func84.trans (congrArg some (by kernel_rfl))⟩
  t0 := Try.underlying0
  a0 := Try.isAgg0
  z0 := Try.sizeOf0
  v0 := Try.zeroValue0
  t4 := Try.underlying4
  a4 := Try.isAgg4
  z4 := Try.sizeOf4
  v4 := Try.zeroValue4
  t23 := Try.underlying97
  a23 := Try.isAgg97
  z23 := Try.sizeOf97
  v23 := Try.zeroValue97
  t26 := Try.underlying3
  a26 := Try.isAgg3
  z26 := Try.sizeOf3
  v26 := Try.zeroValue3
  t27 := Try.underlying102
  a27 := Try.isAgg102
  z27 := Try.sizeOf102
  v27 := Try.zeroValue102
  t28 := Try.underlying103
  a28 := Try.isAgg103
  z28 := Try.sizeOf103
  v28 := Try.zeroValue103
  t33 := Try.underlying147
  a33 := Try.isAgg147
  z33 := Try.sizeOf147
  v33 := Try.zeroValue147
def sortedA_ren : Go.Shelf.Ren := ⟨fun | 6 => 47 | 8 => 82 | 9 => 83 | 11 => 119 | 13 => 121 | 12 => 120 | 23 => 152 | 24 => 153 | 14 => 143 | 15 => 144 | 16 => 145 | 17 => 146 | 18 => 147 | 19 => 148 | 20 => 149 | 21 => 150 | 22 => 151 | 25 => 170 | 26 => 171 | 27 => 172 | 28 => 173 | 29 => 174 | 30 => 175 | 31 => 182 | n => n, fun | 26 => 3 | 28 => 103 | 24 => 46 | 0 => 0 | 3 => 3 | 37 => 80 | 48 => 73 | 50 => 57 | 4 => 4 | 40 => 222 | 39 => 221 | 45 => 172 | 5 => 5 | 9 => 9 | 51 => 243 | 55 => 246 | 57 => 252 | 58 => 253 | 33 => 147 | n => n, fun n => n⟩
theorem sortedA : SlLaysZI.n6 Try.prog sortedA_ren where
  mixed := by kernel_rfl
  f6 := ⟨"slices.Sorted[int]", by decide, Try.func47.trans (congrArg some (by kernel_rfl))⟩
  f8 := ⟨"slices.Collect[int]", by decide, Try.func82.trans (congrArg some (by kernel_rfl))⟩
  f11 := ⟨"slices.AppendSeq[[]int,int]", by decide, Try.func119.trans (congrArg some (by kernel_rfl))⟩
  t0 := Try.underlying0
  a0 := Try.isAgg0
  z0 := Try.sizeOf0
  v0 := Try.zeroValue0
  t24 := Try.underlying46
  a24 := Try.isAgg46
  z24 := Try.sizeOf46
  v24 := Try.zeroValue46
  t26 := Try.underlying3
  a26 := Try.isAgg3
  z26 := Try.sizeOf3
  v26 := Try.zeroValue3
  t28 := Try.underlying103
  a28 := Try.isAgg103
  z28 := Try.sizeOf103
  v28 := Try.zeroValue103
  i26 := by kernel_rfl
def sortA_ren : Go.Shelf.Ren := ⟨fun | 5 => 83 | 8 => 121 | 7 => 120 | 19 => 152 | 20 => 153 | 10 => 143 | 11 => 144 | 12 => 145 | 13 => 146 | 14 => 147 | 15 => 148 | 16 => 149 | 17 => 150 | 18 => 151 | 30 => 170 | 31 => 171 | 32 => 172 | 33 => 173 | 34 => 174 | 35 => 175 | 40 => 182 | n => n, fun | 23 => 46 | 25 => 3 | 3 => 3 | 32 => 80 | 22 => 46 | 0 => 0 | 44 => 73 | 46 => 57 | 4 => 4 | 36 => 222 | 35 => 221 | 41 => 172 | 5 => 5 | 9 => 9 | 53 => 243 | 57 => 246 | 63 => 252 | 64 => 253 | n => n, fun n => n⟩
theorem sortA : SlLaysM.n5 Try.prog sortA_ren where
  mixed := by kernel_rfl
  f5 := ⟨"slices.Sort[[]int,int]", by decide, Try.func83.trans (congrArg some (by kernel_rfl))⟩
  f7 := ⟨"slices.pdqsortOrdered[int]", by decide, Try.func120.trans (congrArg some (by kernel_rfl))⟩
  f8 := Try.func121.trans (congrArg some (by kernel_rfl))
  f10 := ⟨"slices.insertionSortOrdered[int]", by decide, Try.func143.trans (congrArg some (by kernel_rfl))⟩
  f11 := ⟨"slices.heapSortOrdered[int]", by decide, Try.func144.trans (congrArg some (by kernel_rfl))⟩
  f12 := ⟨"slices.breakPatternsOrdered[int]", by decide, Try.func145.trans (congrArg some (by kernel_rfl))⟩
  f13 := ⟨"slices.choosePivotOrdered[int]", by decide, Try.func146.trans (congrArg some (by kernel_rfl))⟩
  f14 := ⟨"slices.reverseRangeOrdered[int]", by decide, Try.func147.trans (congrArg some (by kernel_rfl))⟩
  f15 := ⟨"slices.partialInsertionSortOrdered[int]", by decide, Try.func148.trans (congrArg some (by kernel_rfl))⟩
  f16 := ⟨"cmp.Less[int]", by decide, Try.func149.trans (congrArg some (by kernel_rfl))⟩
  f17 := ⟨"slices.partitionEqualOrdered[int]", by decide, Try.func150.trans (congrArg some (by kernel_rfl))⟩
  f18 := ⟨"slices.partitionOrdered[int]", by decide, Try.func151.trans (congrArg some (by kernel_rfl))⟩
  f19 := Try.func152.trans (congrArg some (by kernel_rfl))
  f20 := Try.func153.trans (congrArg some (by kernel_rfl))
  f30 := ⟨"slices.siftDownOrdered[int]", by decide, Try.func170.trans (congrArg some (by kernel_rfl))⟩
  f31 := Try.func171.trans (congrArg some (by kernel_rfl))
  f32 := Try.func172.trans (congrArg some (by kernel_rfl))
  f33 := ⟨"slices.medianAdjacentOrdered[int]", by decide, Try.func173.trans (congrArg some (by kernel_rfl))⟩
  f34 := ⟨"slices.medianOrdered[int]", by decide, Try.func174.trans (congrArg some (by kernel_rfl))⟩
  f35 := ⟨"cmp.isNaN[int]", by decide, Try.func175.trans (congrArg some (by kernel_rfl))⟩
  f40 := ⟨"slices.order2Ordered[int]", by decide, Try.func182.trans (congrArg some (by kernel_rfl))⟩
  t0 := Try.underlying0
  a0 := Try.isAgg0
  z0 := Try.sizeOf0
  v0 := Try.zeroValue0
  t3 := Try.underlying3
  a3 := Try.isAgg3
  z3 := Try.sizeOf3
  v3 := Try.zeroValue3
  t4 := Try.underlying4
  a4 := Try.isAgg4
  z4 := Try.sizeOf4
  v4 := Try.zeroValue4
  t5 := Try.underlying5
  a5 := Try.isAgg5
  z5 := Try.sizeOf5
  v5 := Try.zeroValue5
  t9 := Try.underlying9
  a9 := Try.isAgg9
  z9 := Try.sizeOf9
  v9 := Try.zeroValue9
  t22 := Try.underlying46
  a22 := Try.isAgg46
  z22 := Try.sizeOf46
  v22 := Try.zeroValue46
  t23 := Try.underlying46
  a23 := Try.isAgg46
  z23 := Try.sizeOf46
  v23 := Try.zeroValue46
  t25 := Try.underlying3
  a25 := Try.isAgg3
  z25 := Try.sizeOf3
  v25 := Try.zeroValue3
  t32 := Try.underlying80
  a32 := Try.isAgg80
  z32 := Try.sizeOf80
  v32 := Try.zeroValue80
  t35 := Try.underlying221
  a35 := Try.isAgg221
  z35 := Try.sizeOf221
  v35 := Try.zeroValue221
  t36 := Try.underlying222
  a36 := Try.isAgg222
  z36 := Try.sizeOf222
  v36 := Try.zeroValue222
  t41 := Try.underlying172
  a41 := Try.isAgg172
  z41 := Try.sizeOf172
  v41 := Try.zeroValue172
  t44 := Try.underlying73
  a44 := Try.isAgg73
  z44 := Try.sizeOf73
  v44 := Try.zeroValue73
  t46 := Try.underlying57
  a46 := Try.isAgg57
  z46 := Try.sizeOf57
  v46 := Try.zeroValue57
  t53 := Try.underlying243
  a53 := Try.isAgg243
  z53 := Try.sizeOf243
  v53 := Try.zeroValue243
  t57 := Try.underlying246
  a57 := Try.isAgg246
  z57 := Try.sizeOf246
  v57 := Try.zeroValue246
  t63 := Try.underlying252
  a63 := Try.isAgg252
  z63 := Try.sizeOf252
  v63 := Try.zeroValue252
  t64 := Try.underlying253
  a64 := Try.isAgg253
  z64 := Try.sizeOf253
  v64 := Try.zeroValue253

theorem sortsA (m : Nat) : AnyZI.SortsIn Try.prog sortedA_ren Fence.wide m :=
  ⟨fun blk off cap ss W hH hblk hsz => callsIn_wide.2 (AnyM.slices_Sort_int sortA blk off cap ss W hH hblk hsz),
   fun p cap W => callsIn_wide.2 (AnyM.slices_Sort_int_none sortA p cap W)⟩

theorem keysGives : KeysGives Try.prog 48 84 := fun mb W => by
  have h : CallsIn Fence.wide 5 Try.prog 48 #[.map mb] W fun e w' => e = .returned (.func (.func 84) #[] #[.pointer (some ⟨W.heap.size, 0, none⟩)]) ∧ w' = W.alloc (.cells #[.map mb] 97) := AnyZI.keys_in keysA Fence.wide 5 trivial rfl mb W
  refine (callsIn_wide.1 h).mono ?_
  rintro e w' ⟨h1, h2⟩
  exact ⟨h1, _, h2⟩

theorem sortedGives : SortedGives Try.prog 47 84 3 := by
  refine ⟨fun Bm b nn D0 w hBm hm hown hsz => ?_, fun Bm w hBm hm => ?_⟩
  · have hseq : SeqGives Fence.wide 2 Try.prog 84 #[.pointer (some ⟨Bm, 0, none⟩)] encZ (fun ss => ss.Perm (intKeys D0)) (Maps.size D0) w :=
      AnyZI.keys_gives (ρ := keysA_ren) { keysA with } Fence.wide _ trivial rfl (by omega) Bm b nn D0 w hBm hm hown
    have hmax : Maps.size D0 ≤ maxLen := by unfold maxLen; omega
    have cS := AnyZI.sorted_in sortedA Fence.wide 5 trivial trivial trivial trivial rfl (by omega) (sortsA _) (enters_of Try.func83 (by kernel_rfl) rfl) 84 #[.pointer (some ⟨Bm, 0, none⟩)] trivial (enters_of Try.func84 (by kernel_rfl) rfl) _ _ hmax (by omega) _ hseq
    change CallsIn _ _ Try.prog 47 _ _ _ at cS
    refine (callsIn_wide.1 cS).mono ?_
    rintro e w' ⟨v, ss, h1, h2, h3, h4, h5⟩
    exact ⟨v, ss, h1, h2, h3, h4, h5⟩
  · have hseq : SeqGives Fence.wide 2 Try.prog 84 #[.pointer (some ⟨Bm, 0, none⟩)] encZ (fun ss : List Int => ss = []) 0 w :=
      AnyZI.keys_gives_nil (ρ := keysA_ren) { keysA with } Fence.wide _ trivial rfl Bm w hBm hm
    have cS := AnyZI.sorted_in sortedA Fence.wide 5 trivial trivial trivial trivial rfl (by omega) (sortsA _) (enters_of Try.func83 (by kernel_rfl) rfl) 84 #[.pointer (some ⟨Bm, 0, none⟩)] trivial (enters_of Try.func84 (by kernel_rfl) rfl) _ 0 (Nat.zero_le _) (by omega) _ hseq
    change CallsIn _ _ Try.prog 47 _ _ _ at cS
    refine (callsIn_wide.1 cS).mono ?_
    rintro e w' ⟨v, ss, h1, h2, h3, h4, h5⟩
    subst h2
    exact ⟨by rw [h1, h4.2 rfl], h5⟩

theorem hasKeys : HasBody Try.prog 48 := ⟨Try.f48, _, Try.func48, by kernel_rfl, rfl⟩
theorem hasSorted : HasBody Try.prog 47 := ⟨Try.f47, _, Try.func47, by kernel_rfl, rfl⟩

/-- the two calls, told -/
noncomputable def both : CallT := orS (keysS 48 84) (sortedS 47 84)
theorem both_snd : CallSnd Try.prog both := orS_snd (keysS_snd hasKeys keysGives) (sortedS_snd hasSorted Try.underlying3 sortedGives)
end Go.Proofs.Ytpmdbbdidafehaa.sorted
