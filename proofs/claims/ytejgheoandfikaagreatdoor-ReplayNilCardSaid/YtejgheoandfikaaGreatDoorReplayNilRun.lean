/-
  'ReplayNil': the machine's runs.
-/
import Derived.Test.YtejgheoandfikaaGreatDoorCards
import Derived.Test.YtejgheoandfikaaGreatDoorTie
import Derived.Test.YtejgheoandfikaaGreatDoorAmLaid
import Derived.SevenTiedAt
import Derived.LaidMore
import Derived.Stop.Joined
import Derived.Test.YtejgheoandfikaaGreatDoorCrc
import Derived.Test.YtejgheoandfikaaGreatDoorAmRange
set_option linter.unusedVariables false
namespace Go.Proofs.YtejgheoandfikaaGreatDoor.replayNil
open Go.RowKit Go.Am

theorem shape : shAll Tryz.prog 8 Tryz.f3.params.toList = some [(.int .u64), .bool] := by kernel_rfl


theorem livesRun : okT (callS Tryz.prog (orS (rangeT Tryz.prog (callS Tryz.prog crc.takeS 100000 60) 100000 [7]) crc.takeS) 100000 60 9 [] (heapB Tryz.prog (m1 0 [8, 2, 8, 8]) fun _ => none)) = true := by kernel_rfl

theorem sums : CallSnd Tryz.prog (orS (sumG 0 [8, 2, 8, 8] 9) crc.takeS) := orS_snd (sumG_snd (orS_snd (rangeT_snd (callS_sound crc.takeS_snd 100000 60) 100000 [7]) crc.takeS_snd) (by decide +kernel) (by decide) (okT_some livesRun)) crc.takeS_snd

theorem runs0 (a : Nat → Option Am.Obj) (n0x0 : Int) : isT (callS Tryz.prog (orS (sumG 0 [8, 2, 8, 8] 9) crc.takeS) 100000 60 3 [.int .u64 n0x0, .bool false] (heapB Tryz.prog (m1 0 [8, 2, 8, 8]) a)) = true := by kernel_rfl
theorem owed0 (a : Nat → Option Am.Obj) (n0x0 : Int) : owedL (callS Tryz.prog (orS (sumG 0 [8, 2, 8, 8] 9) crc.takeS) 100000 60 3 [.int .u64 n0x0, .bool false] (heapB Tryz.prog (m1 0 [8, 2, 8, 8]) a)) = owedR (callS Tryz.prog (orS (sumG 0 [8, 2, 8, 8] 9) crc.takeS) 100000 60 3 [.int .u64 n0x0, .bool false] (heapB Tryz.prog (m1 0 [8, 2, 8, 8]) a)) := by kernel_rfl
theorem runs1 (a : Nat → Option Am.Obj) (n0x0 : Int) : isT (callS Tryz.prog (orS (sumG 0 [8, 2, 8, 8] 9) crc.takeS) 100000 60 3 [.int .u64 n0x0, .bool true] (heapB Tryz.prog (m1 0 [8, 2, 8, 8]) a)) = true := by kernel_rfl
theorem owed1 (a : Nat → Option Am.Obj) (n0x0 : Int) : owedL (callS Tryz.prog (orS (sumG 0 [8, 2, 8, 8] 9) crc.takeS) 100000 60 3 [.int .u64 n0x0, .bool true] (heapB Tryz.prog (m1 0 [8, 2, 8, 8]) a)) = owedR (callS Tryz.prog (orS (sumG 0 [8, 2, 8, 8] 9) crc.takeS) 100000 60 3 [.int .u64 n0x0, .bool true] (heapB Tryz.prog (m1 0 [8, 2, 8, 8]) a)) := by kernel_rfl

theorem fits_slice {a : Nat → Option Am.Obj} {esz : Nat} {e : Sh} {C : List V} (h : Fits a (.slice esz e) C) : ∃ p l c, C = [.slice p l c 0] := by
  rcases h with rfl | ⟨b, l, r, rfl, _⟩
  · exact ⟨_, _, _, rfl⟩
  · exact ⟨_, _, _, rfl⟩

theorem runs (a : Nat → Option Am.Obj) (us : List V) (h : FitsAll a [(.int .u64), .bool] us) :
    ∃ lf n H1, callS Tryz.prog (orS (sumG 0 [8, 2, 8, 8] 9) crc.takeS) lf n 3 us (heapB Tryz.prog (m1 0 [8, 2, 8, 8]) a) = some (.v (.bool true), H1) ∧ QOk H1 := by
  obtain ⟨u0, us0, rfl, ⟨C0, ⟨n0x0, _, rfl⟩, hu0⟩, u1, us1, rfl, ⟨C1, ⟨n1x0, rfl⟩, hu1⟩, rfl⟩ := h
  cases hu0
  cases hu1
  cases n1x0
  · exact ⟨100000, 60, isT_some (runs0 a _) (owed0 a _)⟩
  · exact ⟨100000, 60, isT_some (runs1 a _) (owed1 a _)⟩
end Go.Proofs.YtejgheoandfikaaGreatDoor.replayNil