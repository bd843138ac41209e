/-
  'HullSaves' holds: whatever the arguments, the law answers true, and its arguments read as they did. No condition.
-/
import Derived.Test.YtabebpemfinejaaGreatRows
import Derived.Test.YtabebpemfinejaaGreatG7
set_option linter.unusedVariables false
namespace Go.Proofs.YtabebpemfinejaaGreat.draft
open Go.ChangeShapes Go.WideShapes Go.ChangeAt Go.RowKit Go.Am
theorem livesRun:okT (callS Tryz.prog crc.takeS 100000 60 20 [] (heapA Tryz.prog fun _=>none))=true:=by kernel_rfl
theorem sums:CallSnd Tryz.prog S0:=orS_snd (sumT_snd crc.takeS_snd (okT_some livesRun)) crc.takeS_snd
theorem u16_of {a:Nat→Option Am.Obj} {u:V} (h:FitsV a (.int .u16) u):∃ s:Nat,s < 65536∧u=.int .u16 (s:Int):=by
 obtain⟨C,⟨n,h,rfl⟩,hu⟩:=h
 cases hu
 have h:(decide (0≤n)&&decide (n≤65535))=true:=h
 simp only[Bool.and_eq_true,decide_eq_true_eq] at h
 exact⟨n.toNat,by omega,by rw[Int.toNat_of_nonneg h.1]⟩
theorem u32_of {a:Nat→Option Am.Obj} {u:V} (h:FitsV a (.int .u32) u):∃ s:Nat,s < 4294967296∧u=.int .u32 (s:Int):=by
 obtain⟨C,⟨n,h,rfl⟩,hu⟩:=h
 cases hu
 have h:(decide (0≤n)&&decide (n≤4294967295))=true:=h
 simp only[Bool.and_eq_true,decide_eq_true_eq] at h
 exact⟨n.toNat,by omega,by rw[Int.toNat_of_nonneg h.1]⟩
theorem own:ownKnob Tryz.prog.godebug=none:=by kernel_rfl
theorem laidOut:laidOutB Tryz.prog=true:=by kernel_rfl
theorem shape:shAll Tryz.prog 8 Tryz.f3.params.toList=some [(.int .u8),(.int .u16),(.int .u32)]:=by kernel_rfl
theorem ups (K:Nat) (a:Nat→Option Am.Obj) (us:List V) (h:FitsAll a [(.int .u8),(.int .u16),(.int .u32)] us):∃ G1,U 100000 K 9 3 us (heapA Tryz.prog a)=some (.v (.bool true),G1)∧QOk G1:=by
 obtain⟨u0,us0,rfl,h0,u1,us1,rfl,h1,u2,us2,rfl,h2,rfl⟩:=h
 obtain⟨u,hu,rfl⟩:=disk.u8_of h0
 obtain⟨a1,ha1,rfl⟩:=u16_of h1
 obtain⟨E,hE,rfl⟩:=u32_of h2
 obtain⟨v,G1,e,rfl,hq⟩:=hullsaves_run (lf:=100000) (K:=K) (by decide) (heapA Tryz.prog a) hu hE ha1 0
 exact⟨G1,e,hq (by intro p hp;cases hp)⟩
theorem runs:∃ S,CallSnd Tryz.prog S∧∀(a:Nat→Option Am.Obj) (us:List V),FitsAll a [(.int .u8),(.int .u16),(.int .u32)] us→∃ lf n H1,callS Tryz.prog S lf n 3 us (heapA Tryz.prog a)=some (.v (.bool true),H1)∧QOk H1:=by
 obtain⟨K,S,hS,hu⟩:=up_low (lf:=100000) (by decide) sums 9
 refine⟨S,hS,fun a us h=>?_⟩
 obtain⟨H1,e,hq⟩:=veiled_run hu (fun a us h=>ups K a us h) a us h
 exact⟨100000,9,H1,e,hq⟩
set_option maxRecDepth 100000 in
theorem lifted (os:Os) (started:os.Started) (H:Type) (enc:TypeId × Value→H) :
  ReturnsInHanded {} Tryz.checked os 3 .any (Rows.hullSavesSpec.pre6 enc Tryz.prog Tryz.f3 Rows.hullSavesRow.domain false) (Rows.hullSavesSpec.post enc Tryz.prog Tryz.f3 false true false false):=by
 refine returnsInHanded_of_change (C:=Tryz.checked) own started (by kernel_rfl) Tryz.func3
  (ChangeSpec.witness6 (enc:=enc) (C:=Tryz.checked) false ⟨#[],#[.int .u8 0,.int .u16 0,.int .u32 0],[]⟩ 8 (by kernel_rfl) (by kernel_rfl) (by kernel_rfl) (by kernel_rfl)) ?_
 intro W base args ds gs before hval hW _ _
 obtain⟨S,hS,hr⟩:=runs
 refine laws_runS (P:=Tryz.prog) (S:=S) hS (f:=Tryz.f3) (d:=8) (tb:=4) (s:=Rows.hullSavesSpec) laidOut shape (by kernel_rfl) rfl (by kernel_rfl) (by kernel_rfl) ?_ hr hval hW
 intro ds hl
 have hl:ds.length=3:=hl.trans (by kernel_rfl)
 match ds,hl with
 | [_,_,_],_=>rfl
theorem over:Rows.hullSavesRow.holds Tryz.pinned (OpenSpec.ofChange Rows.hullSavesSpec):=
 OpenClaim.holds_of_wide 3 Tryz.f3 rfl rfl rfl rfl rfl rfl rfl ⟨rfl,rfl,rfl,rfl,rfl⟩ rfl rfl rfl rfl rfl (by kernel_rfl) Tryz.func3 (by kernel_rfl)
  (of_decide_eq_true (by kernel_rfl)) (by unfold Func.isWrapper;first | (rw[if_pos (by decide +kernel)];kernel_rfl) | (rw[if_neg (by decide +kernel)];exact⟨rfl,rfl⟩))
  (fun os started H enc _=>lifted os started H enc)
theorem proved:Rows.HullSavesSaid:=over
#print axioms proved
end Go.Proofs.YtabebpemfinejaaGreat.draft
