/-
  'HullNil' holds: whatever the arguments, the law answers true, and its arguments read as they did. No condition.
-/
import Derived.Test.YtifmdpljcjhpfaaGreatRows
import Derived.Test.YtifmdpljcjhpfaaGreatAmSum
import Derived.Test.YtifmdpljcjhpfaaGreatCrc
namespace Go.Proofs.YtifmdpljcjhpfaaGreat.hullNil
open Go.ChangeShapes Go.WideShapes Go.ChangeAt Go.RowKit Go.Am
set_option linter.unusedVariables false

theorem own : ownKnob Tryz.prog.godebug = none := by kernel_rfl
theorem laid : laidOutB Tryz.prog = true := by kernel_rfl

theorem shape : shAll Tryz.prog 8 Tryz.f3.params.toList = some [.seq (.int .i64) (.seq (.int .i64) .nil), .blk, .int .i64, .bool] := by kernel_rfl

def memo0 : Memo := ⟨58, [.int .u64 1, .agg [.int .u64 9, .int .i64 0, .int .i64 3, .int .i64 2, .int .i64 40, .int .u8 0, .int .u8 0, .int .u8 0, .int .u8 0, .int .u8 0, .int .u8 0, .int .u8 0, .int .u8 0, .int .u8 0, .int .u8 0, .int .u8 0, .int .u8 0, .int .u8 0, .int .u8 0, .int .u8 0, .int .u8 0, .int .i64 0, .bool false]], .tuple [.blk 750617046008015609087154631506469292610981678618146905342788580374829631042059914927257493799932601425457555962117386869778940843524097, .int .i64 0]⟩
theorem memo0_run : okM memo0 (callS Tryz.prog crc.takeS 100000 60 memo0.f memo0.args (heapA Tryz.prog fun _ => none)) = true := by kernel_rfl
def memo1 : Memo := ⟨58, [.int .u64 1, .agg [.int .u64 9, .int .i64 1, .int .i64 3, .int .i64 2, .int .i64 40, .int .u8 0, .int .u8 0, .int .u8 0, .int .u8 0, .int .u8 0, .int .u8 0, .int .u8 0, .int .u8 0, .int .u8 0, .int .u8 0, .int .u8 0, .int .u8 0, .int .u8 0, .int .u8 0, .int .u8 0, .int .u8 0, .int .i64 0, .bool false]], .tuple [.blk 1047587971447575664556634883859100630244423151722936948494286534467168119365557836159799590540427604223116815893211542188163414473310209, .int .i64 0]⟩
theorem memo1_run : okM memo1 (callS Tryz.prog crc.takeS 100000 60 memo1.f memo1.args (heapA Tryz.prog fun _ => none)) = true := by kernel_rfl
def memo2 : Memo := ⟨58, [.int .u64 1, .agg [.int .u64 9, .int .i64 2, .int .i64 3, .int .i64 2, .int .i64 40, .int .u8 0, .int .u8 0, .int .u8 0, .int .u8 0, .int .u8 0, .int .u8 0, .int .u8 0, .int .u8 0, .int .u8 0, .int .u8 0, .int .u8 0, .int .u8 0, .int .u8 0, .int .u8 0, .int .u8 0, .int .u8 0, .int .i64 0, .bool false]], .tuple [.blk 1433994127833011475971818202828406174113680159993903749672787603721890367149667896585187829224242727290811719989343126664967602923634689, .int .i64 0]⟩
theorem memo2_run : okM memo2 (callS Tryz.prog crc.takeS 100000 60 memo2.f memo2.args (heapA Tryz.prog fun _ => none)) = true := by kernel_rfl
def memo3 : Memo := ⟨58, [.int .u64 2, .agg [.int .u64 9, .int .i64 0, .int .i64 3, .int .i64 2, .int .i64 40, .int .u8 0, .int .u8 1, .int .u8 0, .int .u8 0, .int .u8 0, .int .u8 0, .int .u8 0, .int .u8 0, .int .u8 0, .int .u8 0, .int .u8 0, .int .u8 0, .int .u8 0, .int .u8 0, .int .u8 0, .int .u8 0, .int .i64 0, .bool false]], .tuple [.blk 1975888426580710423457062172060835381632325065933038522803860648722042711186232212699225096465679341177844704068523592212973947713486850, .int .i64 0]⟩
theorem memo3_run : okM memo3 (callS Tryz.prog crc.takeS 100000 60 memo3.f memo3.args (heapA Tryz.prog fun _ => none)) = true := by kernel_rfl
def memo4 : Memo := ⟨58, [.int .u64 2, .agg [.int .u64 9, .int .i64 2, .int .i64 3, .int .i64 2, .int .i64 40, .int .u8 0, .int .u8 1, .int .u8 0, .int .u8 0, .int .u8 0, .int .u8 0, .int .u8 0, .int .u8 0, .int .u8 0, .int .u8 0, .int .u8 0, .int .u8 0, .int .u8 0, .int .u8 0, .int .u8 0, .int .u8 0, .int .i64 0, .bool false]], .tuple [.blk 1654233827635345566823281992588114996675483807136519546027210643082122540007013908016723854738392097337169157220556827301729577958637570, .int .i64 0]⟩
theorem memo4_run : okM memo4 (callS Tryz.prog crc.takeS 100000 60 memo4.f memo4.args (heapA Tryz.prog fun _ => none)) = true := by kernel_rfl
def memo5 : Memo := ⟨90, [.blk 0], .tuple [.int .u64 0, .agg [.int .u64 0, .int .i64 0, .int .i64 0, .int .i64 0, .int .i64 0, .int .u8 0, .int .u8 0, .int .u8 0, .int .u8 0, .int .u8 0, .int .u8 0, .int .u8 0, .int .u8 0, .int .u8 0, .int .u8 0, .int .u8 0, .int .u8 0, .int .u8 0, .int .u8 0, .int .u8 0, .int .u8 0, .int .i64 0, .bool false], .int .i64 5]⟩
theorem memo5_run : okM memo5 (callS Tryz.prog crc.takeS 100000 60 memo5.f memo5.args (heapA Tryz.prog fun _ => none)) = true := by kernel_rfl
def memo6 : Memo := ⟨90, [.blk 1433994127833011475971818202828406174113680159993903749672787603721890367149667896585187829224242727290811719989343126664967602923634689], .tuple [.int .u64 1, .agg [.int .u64 9, .int .i64 2, .int .i64 3, .int .i64 2, .int .i64 40, .int .u8 0, .int .u8 0, .int .u8 0, .int .u8 0, .int .u8 0, .int .u8 0, .int .u8 0, .int .u8 0, .int .u8 0, .int .u8 0, .int .u8 0, .int .u8 0, .int .u8 0, .int .u8 0, .int .u8 0, .int .u8 0, .int .i64 0, .bool false], .int .i64 0]⟩
theorem memo6_run : okM memo6 (callS Tryz.prog crc.takeS 100000 60 memo6.f memo6.args (heapA Tryz.prog fun _ => none)) = true := by kernel_rfl
def memo7 : Memo := ⟨90, [.blk 750617046008015609087154631506469292610981678618146905342788580374829631042059914927257493799932601425457555962117386869778940843524097], .tuple [.int .u64 1, .agg [.int .u64 9, .int .i64 0, .int .i64 3, .int .i64 2, .int .i64 40, .int .u8 0, .int .u8 0, .int .u8 0, .int .u8 0, .int .u8 0, .int .u8 0, .int .u8 0, .int .u8 0, .int .u8 0, .int .u8 0, .int .u8 0, .int .u8 0, .int .u8 0, .int .u8 0, .int .u8 0, .int .u8 0, .int .i64 0, .bool false], .int .i64 0]⟩
theorem memo7_run : okM memo7 (callS Tryz.prog crc.takeS 100000 60 memo7.f memo7.args (heapA Tryz.prog fun _ => none)) = true := by kernel_rfl
def memos : List Memo := [memo0, memo1, memo2, memo3, memo4, memo5, memo6, memo7]
theorem memos_snd : CallSnd Tryz.prog (tabS memos) := tabS_snd (by
  intro e he
  simp only [memos, List.mem_cons, List.not_mem_nil, or_false] at he
  rcases he with rfl | rfl | rfl | rfl | rfl | rfl | rfl | rfl
  · exact memo_ok crc.takeS_snd memo0_run
  · exact memo_ok crc.takeS_snd memo1_run
  · exact memo_ok crc.takeS_snd memo2_run
  · exact memo_ok crc.takeS_snd memo3_run
  · exact memo_ok crc.takeS_snd memo4_run
  · exact memo_ok crc.takeS_snd memo5_run
  · exact memo_ok crc.takeS_snd memo6_run
  · exact memo_ok crc.takeS_snd memo7_run
  )

theorem livesRun : okT (callS Tryz.prog (orS (tabS memos) crc.takeS) 100000 60 16 [] (heapA Tryz.prog fun _ => none)) = true := by kernel_rfl

theorem sums : CallSnd Tryz.prog (sumT 16) := sumT_snd (orS_snd memos_snd crc.takeS_snd) (okT_some livesRun)

theorem runs0 (a : Nat → Option Am.Obj) (n0x0 : Int) (n0x1 : Int) (n1x0 : Nat) (n2x0 : Int) : isT (callS Tryz.prog (sumT 16) 100000 60 3 [.agg [.int .i64 n0x0, .int .i64 n0x1], .blk n1x0, .int .i64 n2x0, .bool false] (heapA Tryz.prog a)) = true := by kernel_rfl
theorem owed0 (a : Nat → Option Am.Obj) (n0x0 : Int) (n0x1 : Int) (n1x0 : Nat) (n2x0 : Int) : owedL (callS Tryz.prog (sumT 16) 100000 60 3 [.agg [.int .i64 n0x0, .int .i64 n0x1], .blk n1x0, .int .i64 n2x0, .bool false] (heapA Tryz.prog a)) = owedR (callS Tryz.prog (sumT 16) 100000 60 3 [.agg [.int .i64 n0x0, .int .i64 n0x1], .blk n1x0, .int .i64 n2x0, .bool false] (heapA Tryz.prog a)) := by kernel_rfl
theorem runs1 (a : Nat → Option Am.Obj) (n0x0 : Int) (n0x1 : Int) (n1x0 : Nat) (n2x0 : Int) : isT (callS Tryz.prog (sumT 16) 100000 60 3 [.agg [.int .i64 n0x0, .int .i64 n0x1], .blk n1x0, .int .i64 n2x0, .bool true] (heapA Tryz.prog a)) = true := by kernel_rfl
theorem owed1 (a : Nat → Option Am.Obj) (n0x0 : Int) (n0x1 : Int) (n1x0 : Nat) (n2x0 : Int) : owedL (callS Tryz.prog (sumT 16) 100000 60 3 [.agg [.int .i64 n0x0, .int .i64 n0x1], .blk n1x0, .int .i64 n2x0, .bool true] (heapA Tryz.prog a)) = owedR (callS Tryz.prog (sumT 16) 100000 60 3 [.agg [.int .i64 n0x0, .int .i64 n0x1], .blk n1x0, .int .i64 n2x0, .bool true] (heapA Tryz.prog a)) := by kernel_rfl

theorem runs (a : Nat → Option Am.Obj) (us : List V) (h : FitsAll a [.seq (.int .i64) (.seq (.int .i64) .nil), .blk, .int .i64, .bool] us) :
    ∃ lf n H1, callS Tryz.prog (sumT 16) lf n 3 us (heapA Tryz.prog a) = some (.v (.bool true), H1) ∧ QOk H1 := by
  obtain ⟨u0, us0, rfl, ⟨C0, ⟨_, _, rfl, ⟨n0x0, _, rfl⟩, _, _, rfl, ⟨n0x1, _, rfl⟩, rfl⟩, hu0⟩, u1, us1, rfl, ⟨C1, ⟨n1x0, _, rfl⟩, hu1⟩, u2, us2, rfl, ⟨C2, ⟨n2x0, _, rfl⟩, hu2⟩, u3, us3, rfl, ⟨C3, ⟨n3x0, rfl⟩, hu3⟩, rfl⟩ := h
  cases hu0
  cases hu1
  cases hu2
  cases hu3
  cases n3x0
  · exact ⟨100000, 60, isT_some (runs0 a n0x0 n0x1 n1x0 n2x0) (owed0 a n0x0 n0x1 n1x0 n2x0)⟩
  · exact ⟨100000, 60, isT_some (runs1 a n0x0 n0x1 n1x0 n2x0) (owed1 a n0x0 n0x1 n1x0 n2x0)⟩

def zeros : List Value := List.replicate 64 (.int .u8 0)

set_option maxRecDepth 100000 in
theorem lifted (os : Os) (started : os.Started) (H : Type) (enc : TypeId × Value → H) :
    ReturnsInHanded {} Tryz.checked os 3 .any (Rows.hullNilSpec.pre6 enc Tryz.prog Tryz.f3 Rows.hullNilRow.domain false) (Rows.hullNilSpec.post enc Tryz.prog Tryz.f3 false true false false) := by
  refine returnsInHanded_of_change (C := Tryz.checked) own started (by kernel_rfl) Tryz.func3
    (ChangeSpec.witness6 (enc := enc) (C := Tryz.checked) false ⟨#[], #[.agg (([.int .i64 0, .int .i64 0] : List Value)).toArray, .agg zeros.toArray, .int .i64 0, .bool false], []⟩ 8 (by kernel_rfl) (by kernel_rfl) (by kernel_rfl) (by kernel_rfl)) ?_
  intro W base args ds gs before hval hW _ _
  refine laws_runS (P := Tryz.prog) (S := sumT 16) sums (f := Tryz.f3) (d := 8) (tb := 4) (s := Rows.hullNilSpec) laid shape (by kernel_rfl) rfl (by kernel_rfl) (by kernel_rfl) ?_ runs hval hW
  intro ds hl
  have hl : ds.length = 4 := hl.trans (by kernel_rfl)
  match ds, hl with
  | [_, _, _, _], _ => rfl

theorem over : Rows.hullNilRow.holds Tryz.pinned (OpenSpec.ofChange Rows.hullNilSpec) :=
  OpenClaim.holds_of_wide 3 Tryz.f3 rfl rfl rfl rfl rfl rfl rfl ⟨rfl, rfl, rfl, rfl, rfl⟩ rfl rfl rfl rfl rfl (by kernel_rfl) Tryz.func3 (by kernel_rfl)
    (of_decide_eq_true (by kernel_rfl)) (by unfold Func.isWrapper; first | (rw [if_pos (by decide +kernel)]; kernel_rfl) | (rw [if_neg (by decide +kernel)]; exact ⟨rfl, rfl⟩))
    (fun os started H enc _ => lifted os started H enc)

theorem proved : Rows.HullNilSaid := over
#print axioms proved
end Go.Proofs.YtifmdpljcjhpfaaGreat.hullNil

