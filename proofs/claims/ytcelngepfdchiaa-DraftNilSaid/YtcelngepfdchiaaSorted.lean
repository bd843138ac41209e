/-
  'maps.Keys' and 'slices.Sorted' of this program: what the kit's contracts ask of its own bodies, and what they come to.
-/
import Derived.Test.YtcelngepfdchiaaAmKeys
import Derived.Shelf.SlIterI.Nil
import Derived.Shelf.SortM.Plain
import Derived.Shelf.SortM.SortNone
import Derived.Test.YtcelngepfdchiaaRows
set_option linter.unusedVariables false
namespace Go.Proofs.Ytcelngepfdchiaa.sorted
open Go.RowKit Go.Maps Go.Sort Go.Shelf Go.Am

def keysA_ren : Go.Shelf.Ren := ⟨fun | 7 => 110 | 10 => 139 | n => n, fun | 23 => 99 | 26 => 3 | 3 => 30 | 28 => 150 | 0 => 0 | 27 => 149 | 33 => 63 | 4 => 4 | n => n, fun n => n⟩
theorem keysA : SlLaysZI.n7 Try.prog keysA_ren where
  mixed := by kernel_rfl
  f7 := ⟨"maps.Keys[map[int]ashlar/api.Block,int,ashlar/api.Block]", by decide, Try.func110.trans (congrArg some (by kernel_rfl))⟩
  f10 := ⟨"maps.Keys[map[int]ashlar/api.Block,int,ashlar/api.Block]$1", by decide, Try.func139.trans (congrArg some (by kernel_rfl))⟩
  t0 := Try.underlying0
  a0 := Try.isAgg0
  z0 := Try.sizeOf0
  v0 := Try.zeroValue0
  t4 := Try.underlying4
  a4 := Try.isAgg4
  z4 := Try.sizeOf4
  v4 := Try.zeroValue4
  t23 := Try.underlying99
  a23 := Try.isAgg99
  z23 := Try.sizeOf99
  v23 := Try.zeroValue99
  t26 := Try.underlying3
  a26 := Try.isAgg3
  z26 := Try.sizeOf3
  v26 := Try.zeroValue3
  t27 := Try.underlying149
  a27 := Try.isAgg149
  z27 := Try.sizeOf149
  v27 := Try.zeroValue149
  t28 := Try.underlying150
  a28 := Try.isAgg150
  z28 := Try.sizeOf150
  v28 := Try.zeroValue150
  t33 := Try.underlying63
  a33 := Try.isAgg63
  z33 := Try.sizeOf63
  v33 := Try.zeroValue63
def sortedA_ren : Go.Shelf.Ren := ⟨fun | 6 => 109 | 8 => 137 | 9 => 138 | 11 => 158 | 13 => 160 | 12 => 159 | 23 => 185 | 24 => 186 | 14 => 176 | 15 => 177 | 16 => 178 | 17 => 179 | 18 => 180 | 19 => 181 | 20 => 182 | 21 => 183 | 22 => 184 | 25 => 199 | 26 => 200 | 27 => 201 | 28 => 202 | 29 => 203 | 30 => 204 | 31 => 211 | n => n, fun | 26 => 3 | 28 => 150 | 24 => 23 | 0 => 0 | 3 => 3 | 37 => 33 | 48 => 230 | 50 => 105 | 4 => 4 | 40 => 223 | 39 => 222 | 45 => 184 | 5 => 5 | 9 => 9 | 51 => 242 | 55 => 245 | 57 => 251 | 58 => 252 | 33 => 63 | n => n, fun n => n⟩
theorem sortedA : SlLaysZI.n6 Try.prog sortedA_ren where
  mixed := by kernel_rfl
  f6 := ⟨"slices.Sorted[int]", by decide, Try.func109.trans (congrArg some (by kernel_rfl))⟩
  f8 := ⟨"slices.Collect[int]", by decide, Try.func137.trans (congrArg some (by kernel_rfl))⟩
  f11 := ⟨"slices.AppendSeq[[]int,int]", by decide, Try.func158.trans (congrArg some (by kernel_rfl))⟩
  t0 := Try.underlying0
  a0 := Try.isAgg0
  z0 := Try.sizeOf0
  v0 := Try.zeroValue0
  t24 := Try.underlying23
  a24 := Try.isAgg23
  z24 := Try.sizeOf23
  v24 := Try.zeroValue23
  t26 := Try.underlying3
  a26 := Try.isAgg3
  z26 := Try.sizeOf3
  v26 := Try.zeroValue3
  t28 := Try.underlying150
  a28 := Try.isAgg150
  z28 := Try.sizeOf150
  v28 := Try.zeroValue150
  i26 := by kernel_rfl
def sortA_ren : Go.Shelf.Ren := ⟨fun | 5 => 138 | 8 => 160 | 7 => 159 | 19 => 185 | 20 => 186 | 10 => 176 | 11 => 177 | 12 => 178 | 13 => 179 | 14 => 180 | 15 => 181 | 16 => 182 | 17 => 183 | 18 => 184 | 30 => 199 | 31 => 200 | 32 => 201 | 33 => 202 | 34 => 203 | 35 => 204 | 40 => 211 | n => n, fun | 23 => 23 | 25 => 3 | 3 => 3 | 32 => 33 | 22 => 23 | 0 => 0 | 44 => 230 | 46 => 105 | 4 => 4 | 36 => 223 | 35 => 222 | 41 => 184 | 5 => 5 | 9 => 9 | 53 => 242 | 57 => 245 | 63 => 251 | 64 => 252 | n => n, fun n => n⟩
theorem sortA : SlLaysM.n5 Try.prog sortA_ren where
  mixed := by kernel_rfl
  f5 := ⟨"slices.Sort[[]int,int]", by decide, Try.func138.trans (congrArg some (by kernel_rfl))⟩
  f7 := ⟨"slices.pdqsortOrdered[int]", by decide, Try.func159.trans (congrArg some (by kernel_rfl))⟩
  f8 := Try.func160.trans (congrArg some (by kernel_rfl))
  f10 := ⟨"slices.insertionSortOrdered[int]", by decide, Try.func176.trans (congrArg some (by kernel_rfl))⟩
  f11 := ⟨"slices.heapSortOrdered[int]", by decide, Try.func177.trans (congrArg some (by kernel_rfl))⟩
  f12 := ⟨"slices.breakPatternsOrdered[int]", by decide, Try.func178.trans (congrArg some (by kernel_rfl))⟩
  f13 := ⟨"slices.choosePivotOrdered[int]", by decide, Try.func179.trans (congrArg some (by kernel_rfl))⟩
  f14 := ⟨"slices.reverseRangeOrdered[int]", by decide, Try.func180.trans (congrArg some (by kernel_rfl))⟩
  f15 := ⟨"slices.partialInsertionSortOrdered[int]", by decide, Try.func181.trans (congrArg some (by kernel_rfl))⟩
  f16 := ⟨"cmp.Less[int]", by decide, Try.func182.trans (congrArg some (by kernel_rfl))⟩
  f17 := ⟨"slices.partitionEqualOrdered[int]", by decide, Try.func183.trans (congrArg some (by kernel_rfl))⟩
  f18 := ⟨"slices.partitionOrdered[int]", by decide, Try.func184.trans (congrArg some (by kernel_rfl))⟩
  f19 := Try.func185.trans (congrArg some (by kernel_rfl))
  f20 := Try.func186.trans (congrArg some (by kernel_rfl))
  f30 := ⟨"slices.siftDownOrdered[int]", by decide, Try.func199.trans (congrArg some (by kernel_rfl))⟩
  f31 := Try.func200.trans (congrArg some (by kernel_rfl))
  f32 := Try.func201.trans (congrArg some (by kernel_rfl))
  f33 := ⟨"slices.medianAdjacentOrdered[int]", by decide, Try.func202.trans (congrArg some (by kernel_rfl))⟩
  f34 := ⟨"slices.medianOrdered[int]", by decide, Try.func203.trans (congrArg some (by kernel_rfl))⟩
  f35 := ⟨"cmp.isNaN[int]", by decide, Try.func204.trans (congrArg some (by kernel_rfl))⟩
  f40 := ⟨"slices.order2Ordered[int]", by decide, Try.func211.trans (congrArg some (by kernel_rfl))⟩
  t0 := Try.underlying0
  a0 := Try.isAgg0
  z0 := Try.sizeOf0
  v0 := Try.zeroValue0
  t3 := Try.underlying3
  a3 := Try.isAgg3
  z3 := Try.sizeOf3
  v3 := Try.zeroValue3
  t4 := Try.underlying4
  a4 := Try.isAgg4
  z4 := Try.sizeOf4
  v4 := Try.zeroValue4
  t5 := Try.underlying5
  a5 := Try.isAgg5
  z5 := Try.sizeOf5
  v5 := Try.zeroValue5
  t9 := Try.underlying9
  a9 := Try.isAgg9
  z9 := Try.sizeOf9
  v9 := Try.zeroValue9
  t22 := Try.underlying23
  a22 := Try.isAgg23
  z22 := Try.sizeOf23
  v22 := Try.zeroValue23
  t23 := Try.underlying23
  a23 := Try.isAgg23
  z23 := Try.sizeOf23
  v23 := Try.zeroValue23
  t25 := Try.underlying3
  a25 := Try.isAgg3
  z25 := Try.sizeOf3
  v25 := Try.zeroValue3
  t32 := Try.underlying33
  a32 := Try.isAgg33
  z32 := Try.sizeOf33
  v32 := Try.zeroValue33
  t35 := Try.underlying222
  a35 := Try.isAgg222
  z35 := Try.sizeOf222
  v35 := Try.zeroValue222
  t36 := Try.underlying223
  a36 := Try.isAgg223
  z36 := Try.sizeOf223
  v36 := Try.zeroValue223
  t41 := Try.underlying184
  a41 := Try.isAgg184
  z41 := Try.sizeOf184
  v41 := Try.zeroValue184
  t44 := Try.underlying230
  a44 := Try.isAgg230
  z44 := Try.sizeOf230
  v44 := Try.zeroValue230
  t46 := Try.underlying105
  a46 := Try.isAgg105
  z46 := Try.sizeOf105
  v46 := Try.zeroValue105
  t53 := Try.underlying242
  a53 := Try.isAgg242
  z53 := Try.sizeOf242
  v53 := Try.zeroValue242
  t57 := Try.underlying245
  a57 := Try.isAgg245
  z57 := Try.sizeOf245
  v57 := Try.zeroValue245
  t63 := Try.underlying251
  a63 := Try.isAgg251
  z63 := Try.sizeOf251
  v63 := Try.zeroValue251
  t64 := Try.underlying252
  a64 := Try.isAgg252
  z64 := Try.sizeOf252
  v64 := Try.zeroValue252

theorem sortsA (m : Nat) : AnyZI.SortsIn Try.prog sortedA_ren Fence.wide m :=
  ⟨fun blk off cap ss W hH hblk hsz => callsIn_wide.2 (AnyM.slices_Sort_int sortA blk off cap ss W hH hblk hsz),
   fun p cap W => callsIn_wide.2 (AnyM.slices_Sort_int_none sortA p cap W)⟩

theorem keysGives : KeysGives Try.prog 110 139 := fun mb W => by
  have h : CallsIn Fence.wide 5 Try.prog 110 #[.map mb] W fun e w' => e = .returned (.func (.func 139) #[] #[.pointer (some ⟨W.heap.size, 0, none⟩)]) ∧ w' = W.alloc (.cells #[.map mb] 99) := AnyZI.keys_in keysA Fence.wide 5 trivial rfl mb W
  refine (callsIn_wide.1 h).mono ?_
  rintro e w' ⟨h1, h2⟩
  exact ⟨h1, _, h2⟩

theorem sortedGives : SortedGives Try.prog 109 139 3 := by
  refine ⟨fun Bm b nn D0 w hBm hm hown hsz => ?_, fun Bm w hBm hm => ?_⟩
  · have hseq : SeqGives Fence.wide 2 Try.prog 139 #[.pointer (some ⟨Bm, 0, none⟩)] encZ (fun ss => ss.Perm (intKeys D0)) (Maps.size D0) w :=
      AnyZI.keys_gives (ρ := keysA_ren) { keysA with } Fence.wide _ trivial rfl (by omega) Bm b nn D0 w hBm hm hown
    have hmax : Maps.size D0 ≤ maxLen := by unfold maxLen; omega
    have cS := AnyZI.sorted_in sortedA Fence.wide 5 trivial trivial trivial trivial rfl (by omega) (sortsA _) (enters_of Try.func138 (by kernel_rfl) rfl) 139 #[.pointer (some ⟨Bm, 0, none⟩)] trivial (enters_of Try.func139 (by kernel_rfl) rfl) _ _ hmax (by omega) _ hseq
    change CallsIn _ _ Try.prog 109 _ _ _ at cS
    refine (callsIn_wide.1 cS).mono ?_
    rintro e w' ⟨v, ss, h1, h2, h3, h4, h5⟩
    exact ⟨v, ss, h1, h2, h3, h4, h5⟩
  · have hseq : SeqGives Fence.wide 2 Try.prog 139 #[.pointer (some ⟨Bm, 0, none⟩)] encZ (fun ss : List Int => ss = []) 0 w :=
      AnyZI.keys_gives_nil (ρ := keysA_ren) { keysA with } Fence.wide _ trivial rfl Bm w hBm hm
    have cS := AnyZI.sorted_in sortedA Fence.wide 5 trivial trivial trivial trivial rfl (by omega) (sortsA _) (enters_of Try.func138 (by kernel_rfl) rfl) 139 #[.pointer (some ⟨Bm, 0, none⟩)] trivial (enters_of Try.func139 (by kernel_rfl) rfl) _ 0 (Nat.zero_le _) (by omega) _ hseq
    change CallsIn _ _ Try.prog 109 _ _ _ at cS
    refine (callsIn_wide.1 cS).mono ?_
    rintro e w' ⟨v, ss, h1, h2, h3, h4, h5⟩
    subst h2
    exact ⟨by rw [h1, h4.2 rfl], h5⟩

theorem hasKeys : HasBody Try.prog 110 := ⟨Try.f110, _, Try.func110, by kernel_rfl, rfl⟩
theorem hasSorted : HasBody Try.prog 109 := ⟨Try.f109, _, Try.func109, by kernel_rfl, rfl⟩

/-- the two calls, told -/
noncomputable def both : CallT := orS (keysS 110 139) (sortedS 109 139)
theorem both_snd : CallSnd Try.prog both := orS_snd (keysS_snd hasKeys keysGives) (sortedS_snd hasSorted Try.underlying3 sortedGives)
end Go.Proofs.Ytcelngepfdchiaa.sorted
