/-
  'ShelfNil': the machine's runs.
-/
import Derived.Test.YtejgheoandfikaaGreatRows
import Derived.Test.YtejgheoandfikaaGreatAmSum
import Derived.Test.YtejgheoandfikaaGreatAmFork
set_option linter.unusedVariables false
namespace Go.Proofs.YtejgheoandfikaaGreat.shelfNil
open Go.RowKit Go.Am

theorem shape : shAll Tryz.prog 8 Tryz.f4.params.toList = some [(.seq (.int .i64) (.seq (.int .i64) .nil)), (.int .i64), .bool] := by kernel_rfl


theorem livesRun : okT (callS Tryz.prog (forkT Tryz.prog (callS Tryz.prog noSum 100000 60) 100000 [21]) 100000 60 25 [] (heapA Tryz.prog fun _ => none)) = true := by kernel_rfl

theorem sums : CallSnd Tryz.prog (sumT 25) := sumT_snd (forkT_snd (callS_sound (noSum_snd _) 100000 60) 100000 [21]) (okT_some livesRun)

theorem runs0 (a : Nat → Option Am.Obj) (n0x0 : Int) (n0x1 : Int) (n1x0 : Int) : isT (callS Tryz.prog (sumT 25) 100000 60 4 [.agg [.int .i64 n0x0, .int .i64 n0x1], .int .i64 n1x0, .bool false] (heapA Tryz.prog a)) = true := by kernel_rfl
theorem owed0 (a : Nat → Option Am.Obj) (n0x0 : Int) (n0x1 : Int) (n1x0 : Int) : owedL (callS Tryz.prog (sumT 25) 100000 60 4 [.agg [.int .i64 n0x0, .int .i64 n0x1], .int .i64 n1x0, .bool false] (heapA Tryz.prog a)) = owedR (callS Tryz.prog (sumT 25) 100000 60 4 [.agg [.int .i64 n0x0, .int .i64 n0x1], .int .i64 n1x0, .bool false] (heapA Tryz.prog a)) := by kernel_rfl
theorem runs1 (a : Nat → Option Am.Obj) (n0x0 : Int) (n0x1 : Int) (n1x0 : Int) : isT (callS Tryz.prog (sumT 25) 100000 60 4 [.agg [.int .i64 n0x0, .int .i64 n0x1], .int .i64 n1x0, .bool true] (heapA Tryz.prog a)) = true := by kernel_rfl
theorem owed1 (a : Nat → Option Am.Obj) (n0x0 : Int) (n0x1 : Int) (n1x0 : Int) : owedL (callS Tryz.prog (sumT 25) 100000 60 4 [.agg [.int .i64 n0x0, .int .i64 n0x1], .int .i64 n1x0, .bool true] (heapA Tryz.prog a)) = owedR (callS Tryz.prog (sumT 25) 100000 60 4 [.agg [.int .i64 n0x0, .int .i64 n0x1], .int .i64 n1x0, .bool true] (heapA Tryz.prog a)) := by kernel_rfl

theorem fits_slice {a : Nat → Option Am.Obj} {esz : Nat} {e : Sh} {C : List V} (h : Fits a (.slice esz e) C) : ∃ p l c, C = [.slice p l c 0] := by
  rcases h with rfl | ⟨b, l, r, rfl, _⟩
  · exact ⟨_, _, _, rfl⟩
  · exact ⟨_, _, _, rfl⟩

theorem runs (a : Nat → Option Am.Obj) (us : List V) (h : FitsAll a [(.seq (.int .i64) (.seq (.int .i64) .nil)), (.int .i64), .bool] us) :
    ∃ lf n H1, callS Tryz.prog (sumT 25) lf n 4 us (heapA Tryz.prog a) = some (.v (.bool true), H1) ∧ QOk H1 := by
  obtain ⟨u0, us0, rfl, ⟨C0, ⟨_, _, rfl, ⟨n0x0, _, rfl⟩, _, _, rfl, ⟨n0x1, _, rfl⟩, rfl⟩, hu0⟩, u1, us1, rfl, ⟨C1, ⟨n1x0, _, rfl⟩, hu1⟩, u2, us2, rfl, ⟨C2, ⟨n2x0, rfl⟩, hu2⟩, rfl⟩ := h
  cases hu0
  cases hu1
  cases hu2
  cases n2x0
  · exact ⟨100000, 60, isT_some (runs0 a _ _ _) (owed0 a _ _ _)⟩
  · exact ⟨100000, 60, isT_some (runs1 a _ _ _) (owed1 a _ _ _)⟩
end Go.Proofs.YtejgheoandfikaaGreat.shelfNil