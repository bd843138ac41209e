/-
  'BackNil': the machine's runs.
-/
import Derived.Test.YtejgheoandfikaaGreatRows
import Derived.Test.YtejgheoandfikaaGreatAmSum
import Derived.Test.YtejgheoandfikaaGreatAmFork
set_option linter.unusedVariables false
namespace Go.Proofs.YtejgheoandfikaaGreat.backNil
open Go.RowKit Go.Am

theorem shape : shAll Tryz.prog 8 Tryz.f3.params.toList = some [(.int .i64), .bool] := by kernel_rfl


theorem livesRun : okT (callS Tryz.prog (orS (forkT Tryz.prog (callS Tryz.prog noSum 100000 60) 100000 [21]) (forkT Tryz.prog (callS Tryz.prog (forkT Tryz.prog (callS Tryz.prog noSum 100000 60) 100000 [21]) 100000 60) 100000 [16])) 100000 60 11 [] (heapA Tryz.prog fun _ => none)) = true := by kernel_rfl

theorem sums : CallSnd Tryz.prog (sumT 11) := sumT_snd (orS_snd (forkT_snd (callS_sound (noSum_snd _) 100000 60) 100000 [21]) (forkT_snd (callS_sound (forkT_snd (callS_sound (noSum_snd _) 100000 60) 100000 [21]) 100000 60) 100000 [16])) (okT_some livesRun)

theorem runs0 (a : Nat → Option Am.Obj) (n0x0 : Int) : isT (callS Tryz.prog (sumT 11) 100000 60 3 [.int .i64 n0x0, .bool false] (heapA Tryz.prog a)) = true := by kernel_rfl
theorem owed0 (a : Nat → Option Am.Obj) (n0x0 : Int) : owedL (callS Tryz.prog (sumT 11) 100000 60 3 [.int .i64 n0x0, .bool false] (heapA Tryz.prog a)) = owedR (callS Tryz.prog (sumT 11) 100000 60 3 [.int .i64 n0x0, .bool false] (heapA Tryz.prog a)) := by kernel_rfl
theorem runs1 (a : Nat → Option Am.Obj) (n0x0 : Int) : isT (callS Tryz.prog (sumT 11) 100000 60 3 [.int .i64 n0x0, .bool true] (heapA Tryz.prog a)) = true := by kernel_rfl
theorem owed1 (a : Nat → Option Am.Obj) (n0x0 : Int) : owedL (callS Tryz.prog (sumT 11) 100000 60 3 [.int .i64 n0x0, .bool true] (heapA Tryz.prog a)) = owedR (callS Tryz.prog (sumT 11) 100000 60 3 [.int .i64 n0x0, .bool true] (heapA Tryz.prog a)) := by kernel_rfl

theorem fits_slice {a : Nat → Option Am.Obj} {esz : Nat} {e : Sh} {C : List V} (h : Fits a (.slice esz e) C) : ∃ p l c, C = [.slice p l c 0] := by
  rcases h with rfl | ⟨b, l, r, rfl, _⟩
  · exact ⟨_, _, _, rfl⟩
  · exact ⟨_, _, _, rfl⟩

theorem runs (a : Nat → Option Am.Obj) (us : List V) (h : FitsAll a [(.int .i64), .bool] us) :
    ∃ lf n H1, callS Tryz.prog (sumT 11) lf n 3 us (heapA Tryz.prog a) = some (.v (.bool true), H1) ∧ QOk H1 := by
  obtain ⟨u0, us0, rfl, ⟨C0, ⟨n0x0, _, rfl⟩, hu0⟩, u1, us1, rfl, ⟨C1, ⟨n1x0, rfl⟩, hu1⟩, rfl⟩ := h
  cases hu0
  cases hu1
  cases n1x0
  · exact ⟨100000, 60, isT_some (runs0 a _) (owed0 a _)⟩
  · exact ⟨100000, 60, isT_some (runs1 a _) (owed1 a _)⟩
end Go.Proofs.YtejgheoandfikaaGreat.backNil