/-
  'LogNil': the machine's runs.
-/
import Derived.Test.YtjebjbodfdljmaaDoorCards
import Derived.Test.YtjebjbodfdljmaaDoorTie
import Derived.Test.YtjebjbodfdljmaaDoorAmLaid
import Derived.SevenTiedAt
import Derived.LaidMore
import Derived.Stop.Joined
import Derived.Test.YtjebjbodfdljmaaDoorCrc
import Derived.Test.YtjebjbodfdljmaaDoorLay
set_option linter.unusedVariables false
namespace Go.Proofs.YtjebjbodfdljmaaDoor.logNil
open Go.RowKit Go.Am

theorem shape : shAll Tryd.prog 8 Tryd.f3.params.toList = some [.seq (.int .i64) (.seq (.int .i64) (.seq (.slice 66 (.seq (.seq (.int .i64) (.seq (.int .i64) .nil)) (.seq .blk .nil))) (.seq (.int .u64) (.seq .bool (.seq (.int .i64) (.seq (.int .i64) (.seq (.int .u8) (.seq (.slice 1 (.int .i64)) .nil)))))))), .bool] := by kernel_rfl


theorem livesRun : okT (callS Tryd.prog crc.takeS 100000 60 15 [] (heapB Tryd.prog (m1 0 [8, 2, 8, 8]) fun _ => none)) = true := by kernel_rfl

theorem sums : CallSnd Tryd.prog (orS lay.layS (sumG 0 [8, 2, 8, 8] 15)) := orS_snd lay.layS_snd (sumG_snd crc.takeS_snd (by decide +kernel) (by decide) (okT_some livesRun))

theorem runs0 (a : Nat → Option Am.Obj) (n0x0 : Int) (n0x1 : Int) (p0x2 : Option Ptr) (l0x2 c0x2 : Nat) (n0x3 : Int) (n0x4 : Bool) (n0x5 : Int) (n0x6 : Int) (n0x7 : Int) (p0x8 : Option Ptr) (l0x8 c0x8 : Nat) : isT (callS Tryd.prog (orS lay.layS (sumG 0 [8, 2, 8, 8] 15)) 100000 60 3 [.agg [.int .i64 n0x0, .int .i64 n0x1, .slice p0x2 l0x2 c0x2 0, .int .u64 n0x3, .bool n0x4, .int .i64 n0x5, .int .i64 n0x6, .int .u8 n0x7, .slice p0x8 l0x8 c0x8 0], .bool false] (heapB Tryd.prog (m1 0 [8, 2, 8, 8]) a)) = true := by kernel_rfl
theorem owed0 (a : Nat → Option Am.Obj) (n0x0 : Int) (n0x1 : Int) (p0x2 : Option Ptr) (l0x2 c0x2 : Nat) (n0x3 : Int) (n0x4 : Bool) (n0x5 : Int) (n0x6 : Int) (n0x7 : Int) (p0x8 : Option Ptr) (l0x8 c0x8 : Nat) : owedL (callS Tryd.prog (orS lay.layS (sumG 0 [8, 2, 8, 8] 15)) 100000 60 3 [.agg [.int .i64 n0x0, .int .i64 n0x1, .slice p0x2 l0x2 c0x2 0, .int .u64 n0x3, .bool n0x4, .int .i64 n0x5, .int .i64 n0x6, .int .u8 n0x7, .slice p0x8 l0x8 c0x8 0], .bool false] (heapB Tryd.prog (m1 0 [8, 2, 8, 8]) a)) = owedR (callS Tryd.prog (orS lay.layS (sumG 0 [8, 2, 8, 8] 15)) 100000 60 3 [.agg [.int .i64 n0x0, .int .i64 n0x1, .slice p0x2 l0x2 c0x2 0, .int .u64 n0x3, .bool n0x4, .int .i64 n0x5, .int .i64 n0x6, .int .u8 n0x7, .slice p0x8 l0x8 c0x8 0], .bool false] (heapB Tryd.prog (m1 0 [8, 2, 8, 8]) a)) := by kernel_rfl
theorem runs1 (a : Nat → Option Am.Obj) (n0x0 : Int) (n0x1 : Int) (p0x2 : Option Ptr) (l0x2 c0x2 : Nat) (n0x3 : Int) (n0x4 : Bool) (n0x5 : Int) (n0x6 : Int) (n0x7 : Int) (p0x8 : Option Ptr) (l0x8 c0x8 : Nat) : isT (callS Tryd.prog (orS lay.layS (sumG 0 [8, 2, 8, 8] 15)) 100000 60 3 [.agg [.int .i64 n0x0, .int .i64 n0x1, .slice p0x2 l0x2 c0x2 0, .int .u64 n0x3, .bool n0x4, .int .i64 n0x5, .int .i64 n0x6, .int .u8 n0x7, .slice p0x8 l0x8 c0x8 0], .bool true] (heapB Tryd.prog (m1 0 [8, 2, 8, 8]) a)) = true := by kernel_rfl
theorem owed1 (a : Nat → Option Am.Obj) (n0x0 : Int) (n0x1 : Int) (p0x2 : Option Ptr) (l0x2 c0x2 : Nat) (n0x3 : Int) (n0x4 : Bool) (n0x5 : Int) (n0x6 : Int) (n0x7 : Int) (p0x8 : Option Ptr) (l0x8 c0x8 : Nat) : owedL (callS Tryd.prog (orS lay.layS (sumG 0 [8, 2, 8, 8] 15)) 100000 60 3 [.agg [.int .i64 n0x0, .int .i64 n0x1, .slice p0x2 l0x2 c0x2 0, .int .u64 n0x3, .bool n0x4, .int .i64 n0x5, .int .i64 n0x6, .int .u8 n0x7, .slice p0x8 l0x8 c0x8 0], .bool true] (heapB Tryd.prog (m1 0 [8, 2, 8, 8]) a)) = owedR (callS Tryd.prog (orS lay.layS (sumG 0 [8, 2, 8, 8] 15)) 100000 60 3 [.agg [.int .i64 n0x0, .int .i64 n0x1, .slice p0x2 l0x2 c0x2 0, .int .u64 n0x3, .bool n0x4, .int .i64 n0x5, .int .i64 n0x6, .int .u8 n0x7, .slice p0x8 l0x8 c0x8 0], .bool true] (heapB Tryd.prog (m1 0 [8, 2, 8, 8]) a)) := by kernel_rfl

theorem fits_slice {a : Nat → Option Am.Obj} {esz : Nat} {e : Sh} {C : List V} (h : Fits a (.slice esz e) C) : ∃ p l c, C = [.slice p l c 0] := by
  rcases h with rfl | ⟨b, l, r, rfl, _⟩
  · exact ⟨_, _, _, rfl⟩
  · exact ⟨_, _, _, rfl⟩

theorem runs (a : Nat → Option Am.Obj) (us : List V) (h : FitsAll a [.seq (.int .i64) (.seq (.int .i64) (.seq (.slice 66 (.seq (.seq (.int .i64) (.seq (.int .i64) .nil)) (.seq .blk .nil))) (.seq (.int .u64) (.seq .bool (.seq (.int .i64) (.seq (.int .i64) (.seq (.int .u8) (.seq (.slice 1 (.int .i64)) .nil)))))))), .bool] us) :
    ∃ lf n H1, callS Tryd.prog (orS lay.layS (sumG 0 [8, 2, 8, 8] 15)) lf n 3 us (heapB Tryd.prog (m1 0 [8, 2, 8, 8]) a) = some (.v (.bool true), H1) ∧ QOk H1 := by
  obtain ⟨u0, us0, rfl, ⟨C0, ⟨_, _, rfl, ⟨n0x0, _, rfl⟩, _, _, rfl, ⟨n0x1, _, rfl⟩, _, _, rfl, hs0x2, _, _, rfl, ⟨n0x3, _, rfl⟩, _, _, rfl, ⟨n0x4, rfl⟩, _, _, rfl, ⟨n0x5, _, rfl⟩, _, _, rfl, ⟨n0x6, _, rfl⟩, _, _, rfl, ⟨n0x7, _, rfl⟩, _, _, rfl, hs0x8, rfl⟩, hu0⟩, u1, us1, rfl, ⟨C1, ⟨n1x0, rfl⟩, hu1⟩, rfl⟩ := h
  obtain ⟨p0x2, l0x2, c0x2, rfl⟩ := fits_slice hs0x2
  obtain ⟨p0x8, l0x8, c0x8, rfl⟩ := fits_slice hs0x8
  cases hu0
  cases hu1
  cases n1x0
  · exact ⟨100000, 60, isT_some (runs0 a _ _ _ _ _ _ _ _ _ _ _ _ _) (owed0 a _ _ _ _ _ _ _ _ _ _ _ _ _)⟩
  · exact ⟨100000, 60, isT_some (runs1 a _ _ _ _ _ _ _ _ _ _ _ _ _) (owed1 a _ _ _ _ _ _ _ _ _ _ _ _ _)⟩
end Go.Proofs.YtjebjbodfdljmaaDoor.logNil