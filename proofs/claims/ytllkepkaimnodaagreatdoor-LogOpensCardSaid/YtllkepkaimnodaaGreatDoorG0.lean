import Derived.Test.YtllkepkaimnodaaGreatDoorProg
import Derived.Test.YtllkepkaimnodaaGreatDoorAmTac
import Derived.Test.YtllkepkaimnodaaGreatDoorAmLaid
set_option linter.unusedVariables false
set_option linter.unusedSimpArgs false
set_option maxRecDepth 10000
set_option linter.unusedSectionVars false
open Nat renaming reduceEqDiff → zA, reduceLeDiff → zB, reduceSub → zC, reduceMul → zD, reduceMod → zE, reduceDiv → zF, reduceAdd → zG
open Int renaming reduceBEq → zH
namespace Go.Proofs.YtllkepkaimnodaaGreatDoor.crc
open Go.Am
noncomputable def c186:CFn:=⟨[.tmp (pp 4)],
 .seq (.reg [
 qo 4 (.p (S.get (.c (.int .u32 0)))) []]) (
 .seq (.reg [
 qo 6 (.c (callF (ff 196) [])) [],
 qo 5 (.m (allocF 16 [.int .u32 0,.int .u32 0,.int .u32 0,.int .u32 0,.int .u32 0,.int .u32 0,.int .u32 0,.int .u32 0,.int .u32 0,.int .u32 0,.int .u32 0,.int .u32 0,.int .u32 0,.int .u32 0,.int .u32 0,.int .u32 0])) [],
 qn (.a (storeF (tt 5) (tt 6) 16)) [pp 5,pp 6]]) (
 .seq (.reg [
 mv 7 0,
 mv 8 1,
 qo 9 (.p (convF .u32 (tt 8))) [pp 8],
 qo 10 (.p (arF .xor (tt 7) (tt 9))) [pp 7,pp 9],
 mv 0 10]) (
 .seq (.reg [
 mv 11 0,
 qo 12 (.p (arF .shr (tt 11) (.c (.int .u64 4)))) [pp 11],
 mv 13 0,
 qo 14 (.p (arF .and (tt 13) (.c (.int .u32 15)))) [pp 13],
 qo 15 (.p (iaddrAF (tt 5) (tt 14) 16 1)) [pp 5,pp 14],
 qo 16 (.r (loadF (tt 15) 1 .sc)) [pp 15],
 qo 17 (.p (arF .xor (tt 12) (tt 16))) [pp 12,pp 16],
 mv 0 17]) (
 .seq (.reg [
 mv 18 0,
 qo 19 (.p (arF .shr (tt 18) (.c (.int .u64 4)))) [pp 18],
 mv 20 0,
 qo 21 (.p (arF .and (tt 20) (.c (.int .u32 15)))) [pp 20],
 qo 22 (.p (iaddrAF (tt 5) (tt 21) 16 1)) [pp 5,pp 21],
 qo 23 (.r (loadF (tt 22) 1 .sc)) [pp 22],
 qo 24 (.p (arF .xor (tt 19) (tt 23))) [pp 19,pp 23],
 mv 4 24]) (
 .ret)))))⟩
theorem c186_eq:fnOf Tryz.prog 186=some c186:=by kernel_rfl
def tabN:List Nat:=[0,274646895,549293790,820201905,1098587580,1361435347,1640403810,1905808397,2197175160,2460548119,2722870694,2987750089,3280807620,3553878443,3811616794,4084100981]
def tab:List V:=[.int .u32 0,.int .u32 274646895,.int .u32 549293790,.int .u32 820201905,.int .u32 1098587580,.int .u32 1361435347,.int .u32 1640403810,.int .u32 1905808397,.int .u32 2197175160,.int .u32 2460548119,.int .u32 2722870694,.int .u32 2987750089,.int .u32 3280807620,.int .u32 3553878443,.int .u32 3811616794,.int .u32 4084100981]
noncomputable def at' (i:Nat):Nat:=match nth tabN i with
 | some x=>x
 | none=>0
noncomputable def hi (a:Nat):Nat:=Nat.div a 16
noncomputable def lo (a:Nat):Nat:=Nat.land a 15
noncomputable def xo (a b:Nat):Nat:=Nat.xor a b
noncomputable def half (a:Nat):Nat:=xo (hi a) (at' (lo a))
noncomputable def takeN (r c:Nat):Nat:=half (half (xo r c))
theorem cut_tab:∀ i,i < 16→cut tab i 1=some [.int .u32 ((at' i:Nat):Int)]
 | 0,_=>rfl | 1,_=>rfl | 2,_=>rfl | 3,_=>rfl | 4,_=>rfl | 5,_=>rfl | 6,_=>rfl | 7,_=>rfl
 | 8,_=>rfl | 9,_=>rfl | 10,_=>rfl | 11,_=>rfl | 12,_=>rfl | 13,_=>rfl | 14,_=>rfl | 15,_=>rfl
 | n+16,h=>absurd h (by omega)
theorem at_lt:∀ i,i < 16→at' i < 4294967296
 | 0,_=>by decide | 1,_=>by decide | 2,_=>by decide | 3,_=>by decide | 4,_=>by decide | 5,_=>by decide | 6,_=>by decide | 7,_=>by decide
 | 8,_=>by decide | 9,_=>by decide | 10,_=>by decide | 11,_=>by decide | 12,_=>by decide | 13,_=>by decide | 14,_=>by decide | 15,_=>by decide
 | n+16,h=>absurd h (by omega)
theorem land_lt (a:Nat):lo a < 16:=by
 have:a&&&15≤15:=Nat.and_le_right
 exact Nat.lt_of_le_of_lt this (by decide)
theorem xor_lt {a b:Nat} (h:a < 4294967296) (k:b < 4294967296):xo a b < 4294967296:=Nat.xor_lt_two_pow (n:=32) h k
theorem half_lt {a:Nat} (h:a < 4294967296):half a < 4294967296:=xor_lt (Nat.lt_of_le_of_lt (Nat.div_le_self _ _) h) (at_lt _ (land_lt a))
theorem u32_wrap {n:Nat} (h:n < 4294967296):IntKind.u32.wrap (n:Int)=n:=by
 show (if false&&decide ((n:Int) % (2 ^ 32:Int)≥(2 ^ (32 - 1):Int)) then(n:Int) % (2 ^ 32:Int) - (2 ^ 32:Int) else(n:Int) % (2 ^ 32:Int))=n
 rw[show (2 ^ 32:Int)=4294967296 from rfl]
 simp only[Bool.false_and,Bool.false_eq_true,if_false]
 omega
theorem fits_u32 {n:Nat} (h:n < 4294967296):fitsK .u32 n=true:=by
 show Nat.ble n 4294967295=true
 rw[ble_iff];omega
theorem xor_u32 {a b:Nat} (h:a < 4294967296) (k:b < 4294967296):arith .xor (.int .u32 (a:Int)) (.int .u32 (b:Int))=some (.int .u32 ((xo a b:Nat):Int)):=by
 have e:bitI Nat.xor (fun _ a b=>a ^^^ b) .u32 (a:Int) (b:Int)=((xo a b:Nat):Int):=by
  show (match fitsK .u32 a&&fitsK .u32 b with | true=>Int.ofNat (Nat.xor a b) | false=>_)=_
  rw[fits_u32 h,fits_u32 k];rfl
 show (match decide (IntKind.u32=IntKind.u32) with | false=>none | true=>mkI .u32 (bitI Nat.xor (fun _ a b=>a ^^^ b) .u32 (a:Int) (b:Int)))=_
 rw[e,C0,u32_wrap (xor_lt h k)];rfl
theorem and_u32 {a:Nat} (h:a < 4294967296):arith .and (.int .u32 (a:Int)) (.int .u32 15)=some (.int .u32 ((lo a:Nat):Int)):=by
 have e:bitI Nat.land (fun _ a b=>a&&&b) .u32 (a:Int) 15=((lo a:Nat):Int):=by
  show (match fitsK .u32 a&&fitsK .u32 15 with | true=>Int.ofNat (Nat.land a 15) | false=>_)=_
  rw[fits_u32 h];rfl
 show (match decide (IntKind.u32=IntKind.u32) with | false=>none | true=>mkI .u32 (bitI Nat.land (fun _ a b=>a&&&b) .u32 (a:Int) 15))=_
 rw[e,C0,u32_wrap (Nat.lt_of_lt_of_le (land_lt a) (by decide))];rfl
theorem shr_u32 (a:Nat):arith .shr (.int .u32 (a:Int)) (.int .u64 4)=some (.int .u32 ((hi a:Nat):Int)):=rfl
def heapOf:Option (Rs × Heap)→Heap
 | some (_,H)=>H
 | none=>⟨.e,0,fun _=>none,[]⟩
noncomputable def H13:Heap:=heapOf (callS Tryz.prog noSum 10 2 196 [] (heapA Tryz.prog fun _=>none))
theorem e213:callS Tryz.prog noSum 10 2 196 [] (heapA Tryz.prog fun _=>none)=some (.v (.agg tab),H13):=by kernel_rfl
noncomputable def H14:Heap:=(H13.add (.rows false 16 [List.replicate 16 (.int .u32 0)])).set (.run H13.next) (.rows false 16 [tab])
theorem st14:storeAt (H13.add (.rows false 16 [List.replicate 16 (.int .u32 0)])) ⟨.run H13.next,0⟩ tab=some H14:=by
 have h:(H13.add (.rows false 16 [List.replicate 16 (.int .u32 0)])).get (.run H13.next)=some (.rows false 16 [List.replicate 16 (.int .u32 0)]):=by rw[Heap.get_add,if_pos rfl]
 exact storeAt_eq h (r:=List.replicate 16 (.int .u32 0)) rfl (by kernel_rfl)
theorem ld14 {i:Nat} (hi:i < 16):loadAt H14 ⟨.run H13.next,i⟩ 1=some [.int .u32 ((at' i:Nat):Int)]:=by
 have h:H14.get (.run H13.next)=some (.rows false 16 [tab]):=by unfold H14;rw[Heap.get_set,if_pos rfl]
 rw[loadAt_eq h (r:=tab) (by rw[Nat.div_eq_of_lt hi];rfl),Nat.mod_eq_of_lt hi]
 exact cut_tab i hi
theorem rep16:[V.int .u32 0,.int .u32 0,.int .u32 0,.int .u32 0,.int .u32 0,.int .u32 0,.int .u32 0,.int .u32 0,.int .u32 0,.int .u32 0,.int .u32 0,.int .u32 0,.int .u32 0,.int .u32 0,.int .u32 0,.int .u32 0]=List.replicate 16 (.int .u32 0):=rfl
theorem width_tab:width tab=16:=rfl
theorem take_run {r c:Nat} (hr:r < 4294967296) (hc:c < 256):ret (callS Tryz.prog noSum 10 3 186 [.int .u32 (r:Int),.int .u8 (c:Int)] (heapA Tryz.prog fun _=>none)) fun v H1=>v=.int .u32 ((takeN r c:Nat):Int)∧QOk H1:=by
 have hc':c < 4294967296:=by omega
 have h1:=xor_u32 hr hc'
 have hx:=xor_lt hr hc'
 have h2:=and_u32 hx
 have l2:=ld14 (land_lt (xo r c))
 have lt2:=land_lt (xo r c)
 have h3:=xor_u32 (Nat.lt_of_le_of_lt (Nat.div_le_self _ _) hx:hi (xo r c) < 4294967296) (at_lt _ lt2)
 have hy:=half_lt hx
 have h4:=and_u32 hy
 have l4:=ld14 (land_lt (half (xo r c)))
 have lt4:=land_lt (half (xo r c))
 have h5:=xor_u32 (Nat.lt_of_le_of_lt (Nat.div_le_self _ _) hy:hi (half (xo r c)) < 4294967296) (at_lt _ lt4)
 have hcw:=u32_wrap hc'
 change _=some (V.int .u32 ((half (xo r c):Nat):Int)) at h3
 change _=some (V.int .u32 ((takeN r c:Nat):Int)) at h5
 have hn2:lo (xo r c)+1≤16:=lt2
 have hn4:lo (half (xo r c))+1≤16:=lt4
 have hq:QOk H14:=by
  have:H14.q=[]:=by kernel_rfl
  intro p hp;rw[this] at hp;cases hp
 refine ret_call rfl c186_eq ?_
 simp only[c186,e213,st14,rep16,width_tab,h1,h2,l2,h3,h4,l4,h5,hcw,iaddrAF,shr_u32,hn2,hn4,Nat.mul_one,sy,tup,↓reduceIte,zA,zG,zC,zD,zF,zE,zB,zH,reduceCtorEq]
 simp[hq]
noncomputable def takeS:CallT:=fun id args H=>match Nat.beq id 186,args with
 | true,[.int .u32 (.ofNat r),.int .u8 (.ofNat c)]=>match Nat.ble r 4294967295&&Nat.ble c 255 with
  | true=>some (.v (.int .u32 (.ofNat (takeN r c))),H)
  | false=>none
 | _,_=>none
theorem takeS_calm:NoPan takeS:=by
 intro id args H v H' e
 unfold takeS at e
 split at e
 ·split at e<;>cases e
 ·cases e
theorem takeS_snd:CallSnd Tryz.prog takeS:=by
 refine CallSndV.calm (fun id args H v H' e=>?_) takeS_calm
 unfold takeS at e
 split at e
 ·rename_i r c hid
  have hid:=beq_iff.1 hid
  subst hid
  split at e
  ·rename_i hb
   simp only[Bool.and_eq_true,ble_iff] at hb
   cases e
   obtain⟨v,H1,e1,rfl,hq⟩:=take_run (r:=r) (c:=c) (by omega) (by omega)
   exact alone_snd (noSum_snd _) e1 hq rfl rfl H
  ·cases e
 ·cases e
end Go.Proofs.YtllkepkaimnodaaGreatDoor.crc
namespace Go.Proofs.YtllkepkaimnodaaGreatDoor.disk
open Go.Am
noncomputable def c113:CFn:=⟨[.tmp (pp 4)],
 .seq (.reg [
 qo 4 (.p (S.get (ii 0))) []]) (
 .seq (.block 0 (.seq (.reg [
 mv 6 0,
 qo 7 (.c (callF (ff 161) [(tt 6)])) [pp 6],
 mv 5 7]) (
 .cond (tt 5) (.seq (.reg [
 qo 4 (.p (S.get (ii 1))) []]) (
 .ret)) (.seq (.reg [
 mv 9 1,
 qo 10 (.p (arF .lss (tt 9) (ii 0))) [pp 9],
 mv 11 10,
 mg 12 1 11 false,
 mg 13 0 11 false,
 qg 14 (.p (nilcF (tt 13))) 11 false [pp 13],
 qg 15 (.p (faddrF (tt 14) 0)) 11 false [pp 14],
 qg 16 (.r (loadF (tt 15) 1 .sc)) 11 false [pp 15],
 qg 17 (.p (lenF (tt 16))) 11 false [pp 16],
 qg 18 (.p (arF .geq (tt 12) (tt 17))) 11 false [pp 12,pp 17],
 qo 19 (.p (pickF (tt 11) (.c (.bool true)) (tt 18))) [pp 11,pp 18],
 mv 8 19]) (
 .cond (tt 8) (.seq (.reg [
 qo 4 (.p (S.get (ii 2))) []]) (
 .ret)) (.seq (.reg [
 mv 21 0,
 qo 22 (.p (nilcF (tt 21))) [pp 21],
 qo 23 (.p (faddrF (tt 22) 2)) [pp 22],
 qo 24 (.r (loadF (tt 23) 1 .sc)) [pp 23],
 mv 20 24]) (
 .cond (tt 20) (.seq (.reg [
 qo 4 (.p (S.get (ii 9))) []]) (
 .ret)) (.skip)))))))) (
 .seq (.reg [
 qo 4 (.p (S.get (ii 0))) []]) (
 .ret)))⟩
theorem c113_eq:fnOf Tryz.prog 113=some c113:=by kernel_rfl
noncomputable def c161:CFn:=⟨[.tmp (pp 2)],
 .seq (.reg [
 qo 2 (.p (S.get (.c (.bool false)))) []]) (
 .seq (.reg [
 mv 3 0,
 qo 4 (.r (eqnF false .ptr (tt 3) (.c (.ptr none)))) [pp 3],
 mv 5 4,
 mg 6 0 5 false,
 qg 7 (.p (nilcF (tt 6))) 5 false [pp 6],
 qg 8 (.p (faddrF (tt 7) 0)) 5 false [pp 7],
 qg 9 (.r (loadF (tt 8) 1 .sc)) 5 false [pp 8],
 qg 10 (.p (lenF (tt 9))) 5 false [pp 9],
 qg 11 (.p (eqcF false false [.int .i64] (tt 10) (ii 0))) 5 false [pp 10],
 qo 12 (.p (pickF (tt 5) (.c (.bool true)) (tt 11))) [pp 5,pp 11],
 mv 2 12]) (
 .ret))⟩
theorem c161_eq:fnOf Tryz.prog 161=some c161:=by kernel_rfl
noncomputable def c112_l0:C:=.seq (.seq (.reg [
 mv 21 7,
 qo 22 (.p (arF .geq (tt 21) (ii 0))) [pp 21]]) (
 .cond (tt 22) (.skip) (.exit 0))) (
 .seq (.block 1 (.seq (.reg [
 mv 25 0,
 qo 26 (.p (nilcF (tt 25))) [pp 25],
 qo 27 (.p (faddrF (tt 26) 1)) [pp 26],
 qo 28 (.r (loadF (tt 27) 1 .sc)) [pp 27],
 mv 29 7,
 qo 30 (.p (iaddrSF (tt 28) (tt 29) 65)) [pp 28,pp 29],
 qo 31 (.p (faddrF (tt 30) 0)) [pp 30],
 qo 32 (.r (loadF (tt 31) 1 .sc)) [pp 31],
 mv 33 1,
 qo 34 (.p (eqcF false false [.int .i64] (tt 32) (tt 33))) [pp 32,pp 33]]) (
 .cond (tt 34) (.seq (.reg [
 mv 35 0,
 qo 36 (.p (nilcF (tt 35))) [pp 35],
 qo 37 (.p (faddrF (tt 36) 1)) [pp 36],
 qo 38 (.r (loadF (tt 37) 1 .sc)) [pp 37],
 mv 39 7,
 qo 40 (.p (iaddrSF (tt 38) (tt 39) 65)) [pp 38,pp 39],
 qo 41 (.p (faddrF (tt 40) 1)) [pp 40],
 qo 42 (.r (loadF (tt 41) 64 .bk)) [pp 41],
 qn (.a (storeF (tt 4) (tt 42) 64)) [pp 4,pp 42],
 qo 5 (.p (S.get (ii 0))) []]) (
 .ret)) (.skip)))) (
 .reg [
 mv 23 7,
 qo 24 (.p (arF .sub (tt 23) (ii 1))) [pp 23],
 mv 7 24]))
noncomputable def c112:CFn:=⟨[.cell (pp 4) 64 .bk,.tmp (pp 5)],
 .seq (.reg [
 qo 4 (.m (allocF 64 [.blk 0])) [],
 qo 5 (.p (S.get (ii 0))) []]) (
 .seq (.seq (.reg [
 mv 8 0,
 mv 9 1,
 qo 10 (.c (callF (ff 113) [(tt 8),(tt 9)])) [pp 8,pp 9],
 mv 6 10]) (
 .seq (.reg [
 mv 11 6,
 qo 12 (.p (eqcF true false [.int .i64] (tt 11) (ii 0))) [pp 11]]) (
 .cond (tt 12) (.seq (.reg [
 qo 13 (.p (buildF [.blk 0] .bk [])) [],
 mv 14 6,
 qn (.a (storeF (tt 4) (tt 13) 64)) [pp 4,pp 13],
 mv 5 14]) (
 .ret)) (.skip)))) (
 .seq (.seq (.reg [
 mv 15 0,
 qo 16 (.p (nilcF (tt 15))) [pp 15],
 qo 17 (.p (faddrF (tt 16) 1)) [pp 16],
 qo 18 (.r (loadF (tt 17) 1 .sc)) [pp 17],
 qo 19 (.p (lenF (tt 18))) [pp 18],
 qo 20 (.p (arF .sub (tt 19) (ii 1))) [pp 19],
 mv 7 20]) (
 .block 0 (.loop c112_l0))) (
 .seq (.reg [
 mv 43 0,
 qo 44 (.p (nilcF (tt 43))) [pp 43],
 qo 45 (.p (faddrF (tt 44) 0)) [pp 44],
 qo 46 (.r (loadF (tt 45) 1 .sc)) [pp 45],
 mv 47 1,
 qo 48 (.p (iaddrSF (tt 46) (tt 47) 64)) [pp 46,pp 47],
 qo 49 (.r (loadF (tt 48) 64 .bk)) [pp 48],
 qn (.a (storeF (tt 4) (tt 49) 64)) [pp 4,pp 49],
 qo 5 (.p (S.get (ii 0))) []]) (
 .ret))))⟩
theorem c112_eq:fnOf Tryz.prog 112=some c112:=by kernel_rfl
noncomputable def c33:CFn:=⟨[.tmp (pp 6)],
 .seq (.reg [
 qo 5 (.m (boxF 64 (tt 2))) [pp 2],
 qo 6 (.p (S.get (ii 0))) []]) (
 .seq (.reg [
 mv 8 0,
 mv 9 1,
 qo 10 (.c (callF (ff 113) [(tt 8),(tt 9)])) [pp 8,pp 9],
 mv 7 10]) (
 .seq (.seq (.reg [
 mv 11 7,
 qo 12 (.p (eqcF false false [.int .i64] (tt 11) (ii 0))) [pp 11]]) (
 .cond (tt 12) (.regD [
 mv 13 0,
 mv 14 0,
 qo 15 (.p (nilcF (tt 14))) [pp 14],
 qo 16 (.p (faddrF (tt 15) 1)) [pp 15],
 qo 17 (.r (loadF (tt 16) 1 .sc)) [pp 16],
 mv 18 1,
 qo 19 (.r (loadF (tt 5) 64 .bk)) [pp 5],
 qo 20 (.p (buildF [.int .i64 0,.blk 0] .ag [(0,1,(tt 18)),(1,64,(tt 19))])) [pp 18,pp 19],
 qo 21 (.m (bsliceF 1 65 [.int .i64 0,.blk 0] [(0,65,(tt 20))])) [pp 20],
 qo 22 (.a (appF 65 72 (tt 17) (tt 21))) [pp 17,pp 21],
 qo 23 (.p (nilcF (tt 13))) [pp 13],
 qo 24 (.p (faddrF (tt 23) 1)) [pp 23],
 qn (.a (storeF (tt 24) (tt 22) 1)) [pp 24,pp 22]] [0,0,2,6,14,0,0,96,224,510,1023,2047,4095]) (.skip))) (
 .seq (.reg [
 mv 25 7,
 mv 6 25]) (
 .ret))))⟩
theorem c33_eq:fnOf Tryz.prog 33=some c33:=by kernel_rfl
noncomputable def c104:CFn:=⟨[.tmp (pp 2),.tmp (pp 3)],
 .seq (.reg [
 qo 2 (.p (S.get (.c (.ptr none)))) [],
 qo 3 (.p (S.get (ii 0))) []]) (
 .seq (.seq (.reg [
 mv 4 0,
 qo 5 (.p (arF .lss (tt 4) (ii 1))) [pp 4],
 mv 6 5,
 mg 7 0 6 false,
 qg 8 (.p (arF .gtr (tt 7) (ii 512))) 6 false [pp 7],
 qo 9 (.p (pickF (tt 6) (.c (.bool true)) (tt 8))) [pp 6,pp 8]]) (
 .cond (tt 9) (.seq (.reg [
 qo 2 (.p (S.get (.c (.ptr none)))) [],
 qo 3 (.p (S.get (ii 2))) []]) (
 .ret)) (.skip))) (
 .seq (.reg [
 mv 10 0,
 qo 11 (.m (mksliceF 64 64 [.blk 0] (tt 10) (tt 10))) [pp 10,pp 10],
 qo 12 (.p (buildF [.slice none 0 0 0,.slice none 0 0 0,.bool false] .ag [(0,1,(tt 11))])) [pp 11],
 qo 13 (.m (boxF 3 (tt 12))) [pp 12],
 mv 2 13,
 qo 3 (.p (S.get (ii 0))) []]) (
 .ret)))⟩
theorem c104_eq:fnOf Tryz.prog 104=some c104:=by kernel_rfl
def sureRows (S:List Nat):List (List V):=S.map fun x=>[.blk x]
def looseRows (L:List (Nat × Nat)):List (List V):=L.map fun w=>[.int .i64 (w.1:Int),.blk w.2]
structure Dev where
 S:List Nat
 L:List (Nat × Nat)
 dead:Bool
structure Lay where
 s:Bk
 so:Nat
 l:Bk
 p:Option Ptr
 o:Nat
structure DevAt (H:Heap) (b:Bk) (y:Lay) (D:Dev):Prop where
 own:H.get b=some (.rows false 3 [[.slice (some ⟨y.s,0⟩) D.S.length D.S.length y.so,.slice y.p D.L.length D.L.length y.o,.bool D.dead]])
 sure:H.get y.s=some (.rows false 64 (sureRows D.S))
 nil:D.L=[]→y.p=none∧y.o=0
 loose:D.L≠[]→y.p=some ⟨y.l,0⟩∧y.o=65∧H.get y.l=some (.rows false 65 (looseRows D.L))
 old:H.Old b∧H.Old y.s∧(D.L≠[]→H.Old y.l)
 ne:b≠y.s∧(D.L≠[]→b≠y.l∧y.s≠y.l)
theorem DevAt.turns {H H':Heap} {b:Bk} {y:Lay} {D:Dev} (h:DevAt H b y D) {X:Bk→Prop} (k:Turns X H H') (h1:¬ X b) (h2:¬ X y.s) (h3:D.L≠[]→¬ X y.l):DevAt H' b y D:=by
 obtain⟨o1,o2,o3⟩:=h.old
 exact⟨(k.same b o1 h1).trans h.own,(k.same y.s o2 h2).trans h.sure,h.nil,fun e=>⟨(h.loose e).1,(h.loose e).2.1,(k.same y.l (o3 e) (h3 e)).trans (h.loose e).2.2⟩,⟨o1.mono k.next,o2.mono k.next,fun e=>(o3 e).mono k.next⟩,h.ne⟩
section
variable {H:Heap} {b:Bk} {y:Lay} {D:Dev} (h:DevAt H b y D)
include h
theorem load0:loadAt H ⟨b,0⟩ 1=some [.slice (some ⟨y.s,0⟩) D.S.length D.S.length y.so]:=by
 rw[loadAt_eq h.own rfl];exact cut_hit _ _ rfl
theorem load1:loadAt H ⟨b,1⟩ 1=some [.slice y.p D.L.length D.L.length y.o]:=by
 rw[loadAt_eq h.own (by exact rfl),show 1 % 3=0+1 from rfl,cut_miss (n:=0) _ _ _ (by rfl)];exact cut_hit _ _ rfl
theorem load2:loadAt H ⟨b,2⟩ 1=some [.bool D.dead]:=by
 rw[loadAt_eq h.own (by exact rfl),show 2 % 3=1+1 from rfl,cut_miss (n:=0) _ _ _ (by rfl),show 1=0+1 from rfl,cut_miss (n:=0) _ _ _ (by rfl)];exact cut_hit _ _ rfl
theorem loadS {n:Nat} (hn:n < D.S.length):loadAt H ⟨y.s,n*64⟩ 64=some [.blk D.S[n]]:=by
 rw[loadAt_eq h.sure (r:=[.blk D.S[n]]) (nth_of (by simp[sureRows,hn])),Nat.mul_mod_left]
 exact Dh _ _
end
def Z:Bk→Prop:=fun _=>False
noncomputable abbrev S0:CallT:=orS (sumG 0 [8,2,8,8] 14) crc.takeS
theorem none_ret {H:Heap} {b:Bk} {y:Lay} {D:Dev} (h:DevAt H b y D) (hS:D.S≠[]) (lf m:Nat):ret (callS Tryz.prog S0 lf (m+1) 161 [.ptr (some ⟨b,0⟩)] H) fun v H'=>v=.bool false∧H'=H:=by
 have h0:=load0 h
 have hlen:D.S.length≠0:=by simpa using hS
 refine ret_call rfl c161_eq ?_
 simp only[c161,h0,sy,tup,↓reduceIte,zA,zG,zC,zD,zF,zE,zB,zH,reduceCtorEq]
 simp[hS]
theorem asked_ok {H:Heap} {b:Bk} {y:Lay} {D:Dev} (h:DevAt H b y D) {n:Nat} (hn:n < D.S.length) (hd:D.dead=false) (lf m:Nat):ret (callS Tryz.prog S0 lf (m+2) 113 [.ptr (some ⟨b,0⟩),.int .i64 (n:Int)] H) fun v H'=>v=.int .i64 0∧H'=H:=by
 have h0:=load0 h
 have h2:=load2 h
 have hS:D.S≠[]:=fun e=>by rw[e] at hn;simp at hn
 have hlt:¬ ((n:Int) < 0):=by omega
 have hge:¬ (D.S.length≤n):=by omega
 refine ret_call rfl c113_eq ?_
 obtain⟨v,H1,e,rfl,rfl⟩:=none_ret h hS lf m
 simp only[c113,e,h0,h2,hd,hlt,hge,sy,tup,↓reduceIte,zA,zG,zC,zD,zF,zE,zB,zH,reduceCtorEq]
 simp
def look:List (Nat × Nat)→Nat→Option Nat
 | [],_=>none
 | w::l,n=>match look l n with
  | some x=>some x
  | none=>if w.1=n then some w.2 else none
theorem look_none:∀ {l:List (Nat × Nat)} {n:Nat},(∀ w ∈ l,w.1≠n)→look l n=none
 | [],n,_=>rfl
 | w::l,n,h=>by
  unfold look
  rw[look_none (fun v hv=>h v (List.mem_cons_of_mem _ hv))]
  exact if_neg (h w (List.mem_cons_self ..))
theorem look_at:∀ {l:List (Nat × Nat)} {n k:Nat} (hk:k < l.length),l[k].1=n→(∀ j,(hj:j < l.length)→k < j→l[j].1≠n)→look l n=some l[k].2
 | w::l,n,0,hk,h1,h2=>by
  unfold look
  rw[look_none (fun v hv=>by
   obtain⟨j,hj,rfl⟩:=List.getElem_of_mem hv
   exact h2 (j+1) (by simpa using hj) (by omega))]
  exact if_pos h1
 | w::l,n,k+1,hk,h1,h2=>by
  unfold look
  rw[look_at (l:=l) (k:=k) (by simpa using hk) h1 (fun j hj hlt=>h2 (j+1) (by simpa using hj) (by omega))]
  rfl
noncomputable def readN (D:Dev) (n:Nat):Nat:=match look D.L n with
 | some x=>x
 | none=>D.S.getD n 0
section
variable {H:Heap} {b:Bk} {y:Lay} {D:Dev} (h:DevAt H b y D)
include h
theorem loadL1 {k:Nat} (hk:k < D.L.length):loadAt H ⟨y.l,k*65⟩ 1=some [.int .i64 (D.L[k].1:Int)]:=by
 have hne:D.L≠[]:=fun e=>by rw[e] at hk;simp at hk
 rw[loadAt_eq (h.loose hne).2.2 (r:=[.int .i64 (D.L[k].1:Int),.blk D.L[k].2]) (nth_of (by simp[looseRows,hk])),Nat.mul_mod_left]
 exact cut_hit _ _ rfl
theorem loadL2 {k:Nat} (hk:k < D.L.length):loadAt H ⟨y.l,k*65+1⟩ 64=some [.blk D.L[k].2]:=by
 have hne:D.L≠[]:=fun e=>by rw[e] at hk;simp at hk
 have e1:(k*65+1) / 65=k:=by omega
 have e2:(k*65+1) % 65=0+1:=by omega
 rw[loadAt_eq (h.loose hne).2.2 (r:=[.int .i64 (D.L[k].1:Int),.blk D.L[k].2]) (nth_of (by rw[e1];simp[looseRows,hk])),e2,cut_miss (n:=63) _ _ _ (by rfl)]
 exact Dh _ _
end
theorem read_ok {H:Heap} {b:Bk} {y:Lay} {D:Dev} (h:DevAt H b y D) {n:Nat} (hn:n < D.S.length) (hd:D.dead=false) {lf:Nat} (hlf:D.L.length+1 < lf) (hmax:D.L.length < 1000000) (m:Nat):ret (callS Tryz.prog S0 lf (m+3) 112 [.ptr (some ⟨b,0⟩),.int .i64 (n:Int)] H) fun v H'=>v=.tuple [.blk (readN D n),.int .i64 0]∧Turns Z H H':=by
 have t1:=Turns.add Z H (.rows false 64 [[.blk 0]])
 have h':=h.turns t1 id id (fun _=>id)
 have h0:=load0 h'
 have h1:=load1 h'
 have hs:=loadS h' hn
 have hn1:n+1≤D.S.length:=hn
 refine ret_call rfl c112_eq ?_
 obtain⟨v,H1,e,rfl,e1⟩:=asked_ok h' hn hd lf m
 subst e1
 have hloop:∀ t:T,t.getP (Tr.path 0)=some (.ptr (some ⟨b,0⟩))→t.getP (Tr.path 1)=some (.int .i64 (n:Int))→t.getP (Tr.path 4)=some (.ptr (some ⟨.run H.next,0⟩))→t.getP (Tr.path 7)=some (.int .i64 ((D.L.length:Int) - 1)) →
   wp (loopF (runC (callS Tryz.prog S0 lf (m+2)) lf c112_l0) lf ⟨t,H.add (.rows false 64 [[.blk 0]]),[]⟩) fun x s=>
    (x=.ex 0∧look D.L n=none∧s.H=H.add (.rows false 64 [[.blk 0]])∧s.d=[]∧s.t.getP (Tr.path 0)=some (.ptr (some ⟨b,0⟩))∧s.t.getP (Tr.path 1)=some (.int .i64 (n:Int))∧s.t.getP (Tr.path 4)=some (.ptr (some ⟨.run H.next,0⟩))) ∨
    (x=.ret∧∃ v,look D.L n=some v∧s.H=(H.add (.rows false 64 [[.blk 0]])).set (.run H.next) (.rows false 64 [[.blk v]])∧s.d=[]∧s.t.getP (Tr.path 4)=some (.ptr (some ⟨.run H.next,0⟩))∧s.t.getP (Tr.path 5)=some (.int .i64 0)):=by
  intro t q0 q1 q4 q7
  refine wp_loopF (fun k s=>k≤D.L.length∧s.H=H.add (.rows false 64 [[.blk 0]])∧s.d=[]∧s.t.getP (Tr.path 0)=some (.ptr (some ⟨b,0⟩))∧s.t.getP (Tr.path 1)=some (.int .i64 (n:Int))∧s.t.getP (Tr.path 4)=some (.ptr (some ⟨.run H.next,0⟩))∧s.t.getP (Tr.path 7)=some (.int .i64 ((k:Int) - 1))∧∀ j,(hj:j < D.L.length)→k≤j→D.L[j].1≠n) ?_ lf D.L.length _ ⟨Nat.le_refl _,rfl,rfl,q0,q1,q4,q7,fun j hj hk=>absurd hj (by omega)⟩ (by omega)
  rintro k ⟨t,HH,d⟩ ⟨hk,rfl,rfl,q0,q1,q4,q7,hall⟩
  dsimp only at q0 q1 q4 q7
  cases k with
  | zero=>
   have hg:¬ ((0:Int)≤((0:Nat):Int) - 1):=by decide
   have hl:look D.L n=none:=look_none (by intro w hw;obtain⟨j,hj,rfl⟩:=List.getElem_of_mem hw;exact hall j hj (by omega))
   simp only[c112_l0,q0,q1,q4,q7,hg,hl,sy,tup,↓reduceIte,zA,zG,zC,zD,zF,zE,zB,zH,reduceCtorEq]
   simp
  | succ k=>
   have hk':k < D.L.length:=hk
   have hp:=(h.loose (fun e=>by rw[e] at hk';simp at hk')).1
   have l1:=loadL1 h' hk'
   have l2:=loadL2 h' hk'
   have hg:((k+1:Nat):Int) - 1=(k:Int):=by omega
   rw[hg] at q7
   have hge:(0:Int)≤(k:Int):=by omega
   have hw:IntKind.i64.wrap ((k:Int) - 1)=(k:Int) - 1:=wrap_i64 (by omega)
   by_cases hx:D.L[k].1=n
   ·have hl:look D.L n=some D.L[k].2:=look_at hk' hx (fun j hj hlt=>hall j hj hlt)
    simp only[c112_l0,q0,q1,q4,q7,hge,h1,hp,l1,l2,hk,hx,hw,hl,sy,tup,↓reduceIte,zA,zG,zC,zD,zF,zE,zB,zH,reduceCtorEq]
    simp
   ·have hx':(((D.L[k].1:Nat):Int)==(n:Int))=false:=by simp;omega
    simp only[c112_l0,q0,q1,q4,q7,hge,h1,hp,l1,l2,hk,hx',hw,sy,tup,↓reduceIte,zA,zG,zC,zD,zF,zE,zB,zH,reduceCtorEq]
    refine⟨k,Nat.lt_succ_self k,by omega,trivial,trivial,trivial,trivial,trivial,rfl,fun j hj hkj=>?_⟩
    by_cases e:j=k
    ·subst e;exact hx
    ·exact hall j hj (by omega)
 have hw:IntKind.i64.wrap ((D.L.length:Int) - 1)=(D.L.length:Int) - 1:=wrap_i64 (by omega)
 simp only[c112,e,h0,h1,hs,hn1,hw,sy,tup,↓reduceIte,zA,zG,zC,zD,zF,zE,zB,zH,reduceCtorEq]
 refine wp_ctx (F:=fun r=>seqC _ _ _ (blockC _ r)) (hloop _ ?_ ?_ ?_ ?_) ?_
 ·simp only[sy,tup,↓reduceIte,zA,zG,zC,zD,zF,zE,zB,zH,reduceCtorEq]
 ·simp only[sy,tup,↓reduceIte,zA,zG,zC,zD,zF,zE,zB,zH,reduceCtorEq]
 ·simp only[sy,tup,↓reduceIte,zA,zG,zC,zD,zF,zE,zB,zH,reduceCtorEq]
 ·simp only[sy,tup,↓reduceIte,zA,zG,zC,zD,zF,zE,zB,zH,reduceCtorEq]
 rintro x ⟨t,HH,d⟩ (⟨rfl,hlk,rfl,rfl,q0,q1,q4⟩ | ⟨rfl,v,hlk,rfl,rfl,q4,q5⟩)
 ·dsimp only at q0 q1 q4
  simp only[c112,q0,q1,q4,h0,hs,hn1,sy,tup,↓reduceIte,zA,zG,zC,zD,zF,zE,zB,zH,reduceCtorEq]
  simp
  exact⟨by simp[readN,hlk,hn],t1.setnew (Nat.le_refl _) _⟩
 ·dsimp only at q4 q5
  simp only[q4,q5,sy,tup,↓reduceIte,zA,zG,zC,zD,zF,zE,zB,zH,reduceCtorEq]
  simp
  exact⟨by simp[readN,hlk],t1.setnew (Nat.le_refl _) _⟩
def Foot (b:Bk) (y:Lay) (D:Dev):Bk→Prop:=fun c=>c=b∨c=y.s∨(D.L≠[]∧c=y.l)
structure Next (H:Heap) (b:Bk) (y:Lay) (D:Dev) (H':Heap) (y':Lay) (D':Dev):Prop where
 dev:DevAt H' b y' D'
 turns:Turns (Foot b y D) H H'
 s:y'.s=y.s
 l:D'.L≠[]→(D.L≠[]∧y'.l=y.l)∨¬ H.Old y'.l
noncomputable def killed (H:Heap) (y:Lay) (D:Dev):Heap:=match D.L with
 | []=>H
 | _::_=>H.set y.l .dead
theorem app_dev {H:Heap} {b:Bk} {y:Lay} {D:Dev} (h:DevAt H b y D) (hmax:D.L.length < 1000000) {x:Bk} {n B:Nat} (hx:H.get x=some (.rows false 65 [[.int .i64 (n:Int),.blk B]])) :
  appendV 65 72 H (.slice y.p D.L.length D.L.length y.o) (.slice (some ⟨x,0⟩) 1 1 0)=some (.slice (some ⟨.run H.next,0⟩) (D.L.length+1) (D.L.length+1) 65,(killed H y D).add (.rows false 65 (looseRows (D.L++[(n,B)])))):=by
 have he:elems H x 65 1 0=some [[.int .i64 (n:Int),.blk B]]:=by
  simp only[elems]
  rw[loadAt_eq hx (r:=[.int .i64 (n:Int),.blk B]) rfl,Di]
  rfl
 by_cases hL:D.L=[]
 ·obtain⟨hp,ho⟩:=h.nil hL
  rw[hp,ho]
  simp only[appendV,lenOf,nbeq,nble,firstE,he,killed,hL]
  simp[elems,looseRows]
 ·obtain⟨hp,ho,hg⟩:=h.loose hL
  rw[hp,ho]
  have hk:killed H y D=H.set y.l .dead:=by unfold killed;cases hD:D.L with
   | nil=>exact absurd hD hL
   | cons w l=>rfl
  have hlen:(looseRows D.L).length=D.L.length:=by simp[looseRows]
  simp only[appendV,lenOf,nbeq,nble,firstE,he,hg,hk]
  have e1:(D.L.length+1)*72≤1099511627776:=by omega
  have e2:D.L.length+1≤1099511627776:=by omega
  simp[B8,B7,Ca,e1,e2,hlen,looseRows]
theorem killed_next (H:Heap) (y:Lay) (D:Dev):(killed H y D).next=H.next:=by unfold killed;cases D.L<;>rfl
theorem killed_get {H:Heap} {y:Lay} {D:Dev} {c:Bk} (hc:D.L≠[]→c≠y.l):(killed H y D).get c=H.get c:=by
 unfold killed
 cases hD:D.L with
 | nil=>rfl
 | cons w l=>exact(Heap.get_set ..).trans (if_neg (hc (by rw[hD];exact List.cons_ne_nil _ _)))
theorem killed_turns (H:Heap) (b:Bk) (y:Lay) (D:Dev):Turns (Foot b y D) H (killed H y D):=by
 unfold killed
 cases hD:D.L with
 | nil=>exact Turns.refl _ _
 | cons w l=>exact Turns.set (.inr (.inr ⟨by rw[hD];exact List.cons_ne_nil _ _,rfl⟩)) _ _
theorem put_own (a c d v:V) (ha:a.asBlk=none) (hc:c.asBlk=none) (hv:v.flat=true):put [a,c,d] 1 [v]=some [a,v,d]:=by
 rw[show 1=0+1 from rfl,put_miss _ _ _ _ _ ha,put_hit _ _ _ hc hv];rfl
theorem write_ok {H:Heap} {b:Bk} {y:Lay} {D:Dev} (h:DevAt H b y D) {n:Nat} (hn:n < D.S.length) (hd:D.dead=false) (hmax:D.L.length < 1000000) (B:Nat) (lf m:Nat) :
  ret (callS Tryz.prog S0 lf (m+3) 33 [.ptr (some ⟨b,0⟩),.int .i64 (n:Int),.blk B] H) fun v H'=>v=.int .i64 0∧∃ y',Next H b y D H' y' { D with L:=D.L++[(n,B)] }:=by
 have t1:=Turns.add Z H (.rows false 64 [[.blk B]])
 have h':=h.turns t1 id id (fun _=>id)
 have t2:=t1.addm (.rows false 65 [[.int .i64 (n:Int),.blk B]])
 have h'':=h.turns t2 id id (fun _=>id)
 have l1:=load1 h'
 have hx:((H.add (.rows false 64 [[.blk B]])).add (.rows false 65 [[.int .i64 (n:Int),.blk B]])).get (.run (H.next+1))=some (.rows false 65 [[.int .i64 (n:Int),.blk B]]):=by
  rw[Heap.get_add,if_pos (by simp)]
 have ha:=app_dev h'' hmax hx
 refine ret_call rfl c33_eq ?_
 obtain⟨v,H1,e,rfl,e1⟩:=asked_ok h' hn hd lf m
 subst e1
 have hst:storeAt ((killed ((H.add (.rows false 64 [[.blk B]])).add (.rows false 65 [[.int .i64 (n:Int),.blk B]])) y D).add (.rows false 65 (looseRows (D.L++[(n,B)])))) ⟨b,1⟩ [.slice (some ⟨.run (H.next+1+1),0⟩) (D.L.length+1) (D.L.length+1) 65]=some (((killed ((H.add (.rows false 64 [[.blk B]])).add (.rows false 65 [[.int .i64 (n:Int),.blk B]])) y D).add (.rows false 65 (looseRows (D.L++[(n,B)])))).set b (.rows false 3 [[.slice (some ⟨y.s,0⟩) D.S.length D.S.length y.so,.slice (some ⟨.run (H.next+1+1),0⟩) (D.L.length+1) (D.L.length+1) 65,.bool D.dead]])):=by
  have hg:((killed ((H.add (.rows false 64 [[.blk B]])).add (.rows false 65 [[.int .i64 (n:Int),.blk B]])) y D).add (.rows false 65 (looseRows (D.L++[(n,B)])))).get b=some (.rows false 3 [[.slice (some ⟨y.s,0⟩) D.S.length D.S.length y.so,.slice y.p D.L.length D.L.length y.o,.bool D.dead]]):=by
   rw[Heap.get_add,if_neg (fun e:b=_=>Heap.not_old (Nat.le_refl _) (by rw[← killed_next _ y D,← e];exact h''.old.1)),killed_get (fun hL=>(h.ne.2 hL).1),h''.own]
  exact storeAt_eq hg (r:=[.slice (some ⟨y.s,0⟩) D.S.length D.S.length y.so,.slice y.p D.L.length D.L.length y.o,.bool D.dead]) rfl (put_own _ _ _ _ rfl rfl rfl)
 simp only[c33,e,l1,ha,hst,sy,tup,↓reduceIte,zA,zG,zC,zD,zF,zE,zB,zH,reduceCtorEq]
 rw[endD_ok (by kernel_rfl) (by kernel_rfl)]
 simp only[sy,tup,↓reduceIte,zA,zG,zC,zD,zF,zE,zB,zH,reduceCtorEq]
 refine⟨trivial,.inr trivial,_,rfl,rfl,⟨y.s,y.so,.run (H.next+1+1),some ⟨.run (H.next+1+1),0⟩,65⟩,?_⟩
 have hn2:((H.add (.rows false 64 [[.blk B]])).add (.rows false 65 [[.int .i64 (n:Int),.blk B]])).next=H.next+1+1:=by simp
 have hnew:∀ c,H.Old c→c≠.run (H.next+1+1):=fun c hc e=>Heap.not_old (H:=H) (n:=H.next+1+1) (by omega) (e ▸ hc)
 obtain⟨o1,o2,o3⟩:=h.old
 refine⟨⟨?_,?_,fun hL=>absurd hL (by simp),fun _=>⟨rfl,rfl,?_⟩,⟨?_,?_,fun _=>?_⟩,h.ne.1,fun _=>⟨hnew _ o1,hnew _ o2⟩⟩,?_,rfl,fun _=>.inr (Heap.not_old (by omega))⟩
 ·rw[Heap.get_set,if_pos rfl];simp
 ·rw[Heap.get_set,if_neg (Ne.symm h.ne.1),Heap.get_add,killed_next,hn2,if_neg (hnew _ o2),killed_get (fun hL=>(h.ne.2 hL).2)]
  exact h''.sure
 ·rw[Heap.get_set,if_neg (fun e=>hnew _ o1 e.symm),Heap.get_add,killed_next,hn2,if_pos rfl]
 ·exact o1.mono (by simp[killed_next];omega)
 ·exact o2.mono (by simp[killed_next];omega)
 ·show _ < _
  simp[killed_next]
 ·exact(((t2.wide (fun c hc=>hc.elim)).trans (killed_turns _ b y D)).addm _).setm (.inl rfl) _
theorem DevAt.clear {H:Heap} {b:Bk} {y:Lay} {D:Dev} (h:DevAt H b y D) (dead:Bool):DevAt (H.set b (.rows false 3 [[.slice (some ⟨y.s,0⟩) D.S.length D.S.length y.so,.slice none 0 0 0,.bool dead]])) b { y with p:=none,o:=0 } { D with L:=[],dead:=dead }:=by
 refine⟨?_,?_,fun _=>⟨rfl,rfl⟩,fun e=>absurd rfl e,⟨?_,?_,fun e=>absurd rfl e⟩,h.ne.1,fun e=>absurd rfl e⟩
 ·rw[Heap.get_set,if_pos rfl];rfl
 ·rw[Heap.get_set,if_neg (Ne.symm h.ne.1)];exact h.sure
 ·simpa using h.old.1
 ·simpa using h.old.2.1
section
variable {H:Heap} {b:Bk} {y:Lay} {D:Dev} (h:DevAt H b y D)
include h
end
def flushS (S:List Nat) (L:List (Nat × Nat)):List Nat:=L.foldl (fun S w=>S.set w.1 w.2) S
theorem flushS_length:∀(L:List (Nat × Nat)) (S:List Nat),(flushS S L).length=S.length
 | [],S=>rfl
 | w::L,S=>(flushS_length L (S.set w.1 w.2)).trans (by simp)
end Go.Proofs.YtllkepkaimnodaaGreatDoor.disk
namespace Go.Proofs.YtllkepkaimnodaaGreatDoor.disk
open Go.Am
def bl (B:Nat):(n j:Nat)→List Nat
 | 0,_=>[]
 | n+1,j=>byte B j::bl B n (j+1)
theorem cut_byte (B j:Nat) (hj:j < 64):cut [.blk B] j 1=some [.int .u8 (.ofNat (byte B j))]:=by
 have e:min 1 (64 - j)=1:=by omega
 have h1:¬ (64≤j):=by omega
 simp only[cut,nbeq,nble,V.asBlk,B9,e]
 simp[h1]
 rfl
theorem put_byte (B j x:Nat) (hj:j < 64) (hx:x < 256):put [.blk B] j [.int .u8 (.ofNat x)]=some [.blk (setByte B j x)]:=by
 have h1:¬ (64≤j):=by omega
 have h2:x≤255:=by omega
 have hp:putBytes [.int .u8 (.ofNat x)] j B=some (setByte B j x,[]):=by
  simp only[putBytes,nble]
  simp[h1,h2,putBytes]
 have ha:V.asBlk (.int .u8 (.ofNat x))=none:=rfl
 have hb:V.asBlk (.blk B)=some B:=rfl
 unfold put
 simp only[hb,ha,hp,nble]
 simp[h1,put_nil]
theorem getD_lt {l:List Nat} {n:Nat} (h:n < l.length):l.getD n 0=l[n]:=by simp[List.getD,h]
structure PicksAt (H:Heap) (pp:Option Ptr) (P:List Int) (X:Bk→Prop):Prop where
 has:P≠[]→∃ x ox ro rows,pp=some ⟨x,ox⟩∧H.Old x∧¬ X x∧H.get x=some (.rows ro 1 rows)∧∀ i,(hi:i < P.length)→rows[ox+i]?=some [.int .i64 P[i]]
theorem PicksAt.load {H:Heap} {pp:Option Ptr} {P:List Int} {X:Bk→Prop} (h:PicksAt H pp P X) {i:Nat} (hi:i < P.length):∃ x ox,pp=some ⟨x,ox⟩∧loadAt H ⟨x,ox+i⟩ 1=some [.int .i64 P[i]]:=by
 obtain⟨x,ox,ro,rows,hp,_,_,hg,hr⟩:=h.has (fun e=>by rw[e] at hi;simp at hi)
 refine⟨x,ox,hp,?_⟩
 rw[loadAt_eq hg (r:=[.int .i64 P[i]]) (nth_of (by rw[Nat.div_one];exact hr i hi)),Nat.mod_one]
 exact cut_hit _ _ rfl
theorem PicksAt.turns {H H':Heap} {pp:Option Ptr} {P:List Int} {X:Bk→Prop} (h:PicksAt H pp P X) (k:Turns X H H'):PicksAt H' pp P X:=⟨fun e=>by
 obtain⟨x,ox,ro,rows,hp,ho,hx,hg,hr⟩:=h.has e
 exact⟨x,ox,ro,rows,hp,ho.mono k.next,hx,(k.same x ho hx).trans hg,hr⟩⟩
theorem PicksAt.at' {H H':Heap} {pp:Option Ptr} {P:List Int} {X:Bk→Prop} (h:PicksAt H pp P (fun _=>False)) (k:Turns (fun _=>False) H H') (hX:∀ c,X c→¬ H.Old c):PicksAt H' pp P X:=⟨fun e=>by
 obtain⟨x,ox,ro,rows,hp,ho,hx,hg,hr⟩:=h.has e
 exact⟨x,ox,ro,rows,hp,ho.mono k.next,fun hx=>hX x hx ho,(k.same x ho id).trans hg,hr⟩⟩
end Go.Proofs.YtllkepkaimnodaaGreatDoor.disk
namespace Go.Proofs.YtllkepkaimnodaaGreatDoor.disk
open Go.Am
theorem Turns.after {X:Bk→Prop} {H0 H H':Heap} {Y:Bk→Prop} (h:Turns X H0 H) (k:Turns Y H H') (hy:∀ c,H0.Old c→Y c→X c):Turns X H0 H':=
 ⟨Nat.le_trans h.next k.next,fun c hc hx=>(k.same c (hc.mono h.next) (fun e=>hx (hy c hc e))).trans (h.same c hc hx),fun q=>k.q (h.q q)⟩
structure Fresh (H0:Heap) (b:Bk) (y:Lay) (D:Dev):Prop where
 b:¬ H0.Old b
 s:¬ H0.Old y.s
 l:D.L≠[]→¬ H0.Old y.l
theorem Fresh.foot {H0:Heap} {b:Bk} {y:Lay} {D:Dev} (h:Fresh H0 b y D):∀ c,Foot b y D c→¬ H0.Old c:=by
 rintro c (rfl | rfl | ⟨hl,rfl⟩)
 ·exact h.b
 ·exact h.s
 ·exact h.l hl
theorem Fresh.next {H0 H H':Heap} {b:Bk} {y y':Lay} {D D':Dev} (h:Fresh H0 b y D) (hn:H0.next≤H.next) (k:Next H b y D H' y' D'):Fresh H0 b y' D':=
 ⟨h.b,by rw[k.s];exact h.s,fun e=>by
  rcases k.l e with ⟨h1,h2⟩ | h1
  ·rw[h2];exact h.l h1
  ·exact fun o=>h1 (o.mono hn)⟩
theorem Fresh.turns {H0 H H':Heap} {b:Bk} {y y':Lay} {D D':Dev} (h:Fresh H0 b y D) (hT:Turns Z H0 H) (k:Next H b y D H' y' D'):Turns Z H0 H':=
 Turns.after hT k.turns (fun c hc hx=>(h.foot c hx hc).elim)
theorem new_ok (H:Heap) {n:Nat} (h1:1≤n) (h2:n≤512) (lf m:Nat):ret (callS Tryz.prog S0 lf (m+1) 104 [.int .i64 (n:Int)] H) fun v H'=>v=.tuple [.ptr (some ⟨.run (H.next+1),0⟩),.int .i64 0] ∧
  DevAt H' (.run (H.next+1)) ⟨.run H.next,0,.run H.next,none,0⟩ ⟨List.replicate n 0,[],false⟩∧Turns Z H H':=by
 have g1:¬ ((n:Int) < 1):=by omega
 have g2:¬ (512 < (n:Int)):=by omega
 have g3:n≤n:=Nat.le_refl _
 have g4:n*64≤1099511627776:=by omega
 have g4':64*n≤1099511627776:=by omega
 have g5:n≤1099511627776:=by omega
 refine ret_call rfl c104_eq ?_
 simp only[c104,g1,g2,g3,g4,g4',g5,mksliceF,sy,tup,↓reduceIte,zA,zG,zC,zD,zF,zE,zB,zH,reduceCtorEq]
 refine⟨trivial,.inr trivial,_,rfl,rfl,?_,((Turns.refl Z H).addm _).addm _⟩
 refine⟨?_,?_,fun _=>⟨rfl,rfl⟩,fun e=>absurd rfl e,⟨?_,?_,fun e=>absurd rfl e⟩,by simp,fun e=>absurd rfl e⟩
 ·rw[Heap.get_add,if_pos (by simp)];simp
 ·rw[Heap.get_add,if_neg (by simp),Heap.get_add,if_pos rfl]
  simp[sureRows]
 ·show _ < _
  first | (simp;done) | (simp;omega)
 ·show _ < _
  first | (simp;done) | (simp;omega)
theorem load_of {H:Heap} {c:Bk} {x:Nat} (h:H.get c=some (.rows false 64 [[.blk x]])):loadAt H ⟨c,0⟩ 64=some [.blk x]:=by
 rw[loadAt_eq h (r:=[.blk x]) rfl];exact Dh _ _
end Go.Proofs.YtllkepkaimnodaaGreatDoor.disk
namespace Go.Proofs.YtllkepkaimnodaaGreatDoor.disk
open Go.Am
theorem load_byte {H:Heap} {b:Bk} {y:Lay} {D:Dev} (h:DevAt H b y D) {w j:Nat} (hw:w < D.S.length) (hj:j < 64):loadAt H ⟨y.s,w*64+j⟩ 1=some [.int .u8 ((byte D.S[w] j:Nat):Int)]:=by
 have e1:(w*64+j) / 64=w:=by omega
 have e2:(w*64+j) % 64=j:=by omega
 rw[loadAt_eq h.sure (r:=[.blk D.S[w]]) (nth_of (by rw[e1];simp[sureRows,hw])),e2]
 exact cut_byte _ _ hj
theorem cell_load_byte {H:Heap} {c:Bk} {x j:Nat} (h:H.get c=some (.rows false 64 [[.blk x]])) (hj:j < 64):loadAt H ⟨c,j⟩ 1=some [.int .u8 ((byte x j:Nat):Int)]:=by
 rw[loadAt_eq h (r:=[.blk x]) (by rw[Nat.div_eq_of_lt hj];rfl),Nat.mod_eq_of_lt hj]
 exact cut_byte _ _ hj
theorem cell_store_byte {H:Heap} {c:Bk} {x j v:Nat} (h:H.get c=some (.rows false 64 [[.blk x]])) (hj:j < 64) (hv:v < 256):storeAt H ⟨c,j⟩ [.int .u8 (v:Int)]=some (H.set c (.rows false 64 [[.blk (setByte x j v)]])):=by
 rw[storeAt_eq h (r:=[.blk x]) (r':=[.blk (setByte x j v)]) (by rw[Nat.div_eq_of_lt hj];rfl) (by rw[Nat.mod_eq_of_lt hj];exact put_byte _ _ _ hj hv),Nat.div_eq_of_lt hj]
 rfl
theorem cell_store {H:Heap} {c:Bk} {x v:Nat} (h:H.get c=some (.rows false 64 [[.blk x]])):storeAt H ⟨c,0⟩ [.blk v]=some (H.set c (.rows false 64 [[.blk v]])):=by
 rw[storeAt_eq h (r:=[.blk x]) (r':=[.blk v]) rfl (Dg _ _ _)];rfl
end Go.Proofs.YtllkepkaimnodaaGreatDoor.disk
namespace Go.Proofs.YtllkepkaimnodaaGreatDoor.disk
open Go.Am
def Sep (b:Bk) (y:Lay) (D:Dev) (b':Bk) (y':Lay) (D':Dev):Prop:=∀ c,Foot b y D c→¬ Foot b' y' D' c
theorem DevAt.foot_old {H:Heap} {b:Bk} {y:Lay} {D:Dev} (h:DevAt H b y D):∀ c,Foot b y D c→H.Old c:=by
 rintro c (rfl | rfl | ⟨hl,rfl⟩)
 ·exact h.old.1
 ·exact h.old.2.1
 ·exact h.old.2.2 hl
theorem Sep.symm {b b':Bk} {y y':Lay} {D D':Dev} (h:Sep b y D b' y' D'):Sep b' y' D' b y D:=fun c h1 h2=>h c h2 h1
theorem Sep.dev {H H':Heap} {b b':Bk} {y y':Lay} {D D':Dev} (hs:Sep b y D b' y' D') (h':DevAt H b' y' D') (k:Turns (Foot b y D) H H'):DevAt H' b' y' D':=
 h'.turns k (fun e=>hs _ e (.inl rfl)) (fun e=>hs _ e (.inr (.inl rfl))) (fun hl e=>hs _ e (.inr (.inr ⟨hl,rfl⟩)))
theorem Sep.next {H H':Heap} {b b':Bk} {y y' y1:Lay} {D D' D1:Dev} (hs:Sep b y D b' y' D') (h':DevAt H b' y' D') (k:Next H b y D H' y1 D1):Sep b y1 D1 b' y' D':=by
 rintro c (rfl | rfl | ⟨hl,rfl⟩) hc
 ·exact hs _ (.inl rfl) hc
 ·rw[k.s] at hc;exact hs _ (.inr (.inl rfl)) hc
 ·rcases k.l hl with ⟨h1,h2⟩ | h1
  ·rw[h2] at hc;exact hs _ (.inr (.inr ⟨h1,rfl⟩)) hc
  ·exact h1 (h'.foot_old _ hc)
theorem sep_fresh {H:Heap} {b b':Bk} {y y':Lay} {D D':Dev} (h:DevAt H b y D) (hF:Fresh H b' y' D'):Sep b y D b' y' D':=fun c hc hc'=>hF.foot c hc' (h.foot_old c hc)
end Go.Proofs.YtllkepkaimnodaaGreatDoor.disk
namespace Go.Proofs.YtllkepkaimnodaaGreatDoor.disk
open Go.Am
noncomputable def cellH (K:Heap) (x:Nat):Heap:=(K.add (.rows false 64 [[.blk 0]])).set (.run K.next) (.rows false 64 [[.blk x]])
theorem cell_fold (K:Heap) (x:Nat):(K.add (.rows false 64 [[.blk 0]])).set (.run K.next) (.rows false 64 [[.blk x]])=cellH K x:=rfl
theorem cell_turns (K:Heap) (x:Nat):Turns Z K (cellH K x):=(Turns.add Z K _).setnew (Nat.le_refl _) _
theorem eq_of_bytes {a b:Nat} (ha:a < 256 ^ 64) (hb:b < 256 ^ 64) (h:∀ j,j < 64→byte a j=byte b j):a=b:=by
 have key:∀ n,n≤64→a % 256 ^ n=b % 256 ^ n:=by
  intro n
  induction n with
  | zero=>intro _;simp[Nat.mod_one]
  | succ n ih=>
   intro hn
   have e:=h n (by omega)
   rw[byte_eq,byte_eq] at e
   rw[Nat.mod_pow_succ,Nat.mod_pow_succ,ih (by omega),e]
 have:=key 64 (Nat.le_refl _)
 rwa [Nat.mod_eq_of_lt ha,Nat.mod_eq_of_lt hb] at this
def Small (S:List Nat):Prop:=∀ x ∈ S,x < 256 ^ 64
def SmallL (L:List (Nat × Nat)):Prop:=∀ w ∈ L,w.2 < 256 ^ 64
theorem Small.getD {S:List Nat} (h:Small S) (n:Nat):S.getD n 0 < 256 ^ 64:=by
 by_cases hn:n < S.length
 ·rw[getD_lt hn];exact h _ (List.getElem_mem hn)
 ·simp[List.getD,hn]
theorem Small.set {S:List Nat} (h:Small S) (n:Nat) {x:Nat} (hx:x < 256 ^ 64):Small (S.set n x):=fun z hz=>by
 rcases List.mem_or_eq_of_mem_set hz with hz | rfl
 ·exact h z hz
 ·exact hx
theorem Small.flush:∀ {L:List (Nat × Nat)} {S:List Nat},Small S→SmallL L→Small (flushS S L)
 | [],S,h,_=>h
 | w::L,S,h,hl=>Small.flush (L:=L) (h.set w.1 (hl w (List.mem_cons_self ..))) (fun v hv=>hl v (List.mem_cons_of_mem _ hv))
theorem look_cons (w:Nat × Nat) (l:List (Nat × Nat)) (n:Nat):look (w::l) n=match look l n with
  | some x=>some x
  | none=>if w.1=n then some w.2 else none:=rfl
theorem look_flush:∀ {L:List (Nat × Nat)} {S:List Nat} {n:Nat},(∀ w ∈ L,w.1 < S.length)→(flushS S L).getD n 0=match look L n with
  | some x=>x
  | none=>S.getD n 0
 | [],S,n,_=>rfl
 | w::L,S,n,h=>by
  show (flushS (S.set w.1 w.2) L).getD n 0=_
  rw[look_flush (S:=S.set w.1 w.2) (by intro v hv;simpa using h v (List.mem_cons_of_mem _ hv))]
  rw[look_cons]
  have hw:=h w (List.mem_cons_self ..)
  cases look L n with
  | some x=>rfl
  | none=>
   dsimp only
   by_cases e:w.1=n
   ·subst e
    simp[List.getD,hw]
   ·rw[if_neg e]
    simp[List.getD,List.getElem?_set_ne e]
theorem read_flush {D:Dev} (h:∀ w ∈ D.L,w.1 < D.S.length) (n:Nat):readN D n=(flushS D.S D.L).getD n 0:=(look_flush h).symm
def rowsI (P:List Int):List (List V):=P.map fun p=>[.int .i64 p]
noncomputable def killP (H:Heap):Option Ptr→Heap
 | none=>H
 | some q=>H.set q.b .dead
end Go.Proofs.YtllkepkaimnodaaGreatDoor.disk
namespace Go.Proofs.YtllkepkaimnodaaGreatDoor.disk
open Go.Am
noncomputable def c115:CFn:=⟨[.tmp (pp 2)],
 .seq (.reg [
 qo 2 (.p (S.get (ii 0))) []]) (
 .seq (.seq (.reg [
 mv 3 0,
 qo 4 (.c (callF (ff 161) [(tt 3)])) [pp 3]]) (
 .cond (tt 4) (.seq (.reg [
 qo 2 (.p (S.get (ii 0))) []]) (
 .ret)) (.skip))) (
 .seq (.reg [
 mv 5 0,
 qo 6 (.p (nilcF (tt 5))) [pp 5],
 qo 7 (.p (faddrF (tt 6) 0)) [pp 6],
 qo 8 (.r (loadF (tt 7) 1 .sc)) [pp 7],
 qo 9 (.p (lenF (tt 8))) [pp 8],
 mv 2 9]) (
 .ret)))⟩
theorem c115_eq:fnOf Tryz.prog 115=some c115:=by kernel_rfl
def code (D:Dev) (n:Int):Int:=if n < 0∨(D.S.length:Int)≤n then 2 else if D.dead=true then 9 else 0
theorem code_out {D:Dev} {n:Int} (h:n < 0∨(D.S.length:Int)≤n):code D n=2:=if_pos h
theorem code_dead {D:Dev} {n:Int} (h:¬ (n < 0∨(D.S.length:Int)≤n)) (hd:D.dead=true):code D n=9:=by unfold code;rw[if_neg h,if_pos hd]
theorem code_ok {D:Dev} {n:Int} (h:¬ (n < 0∨(D.S.length:Int)≤n)) (hd:D.dead=false):code D n=0:=by unfold code;rw[if_neg h,hd];rfl
theorem code_cases (D:Dev) (n:Int):(∃ k:Nat,n=(k:Int)∧k < D.S.length∧D.dead=false∧code D n=0)∨code D n=2∨code D n=9:=by
 by_cases h:n < 0∨(D.S.length:Int)≤n
 ·exact .inr (.inl (code_out h))
 ·cases hd:D.dead with
  | true=>exact .inr (.inr (code_dead h hd))
  | false=>
   have h':0≤n∧n < (D.S.length:Int):=by omega
   exact .inl ⟨n.toNat,by omega,by omega,rfl,code_ok h hd⟩
theorem asked_code {H:Heap} {b:Bk} {y:Lay} {D:Dev} (h:DevAt H b y D) (hS:D.S≠[]) (n:Int) (lf m:Nat):ret (callS Tryz.prog S0 lf (m+2) 113 [.ptr (some ⟨b,0⟩),.int .i64 n] H) fun v H'=>v=.int .i64 (code D n)∧H'=H:=by
 by_cases hout:n < 0∨(D.S.length:Int)≤n
 ·rw[code_out hout]
  have h0:=load0 h
  refine ret_call rfl c113_eq ?_
  obtain⟨v,H1,e,rfl,rfl⟩:=none_ret h hS lf m
  by_cases hlt:n < 0
  ·simp only[c113,e,h0,hlt,sy,tup,↓reduceIte,zA,zG,zC,zD,zF,zE,zB,zH,reduceCtorEq]
   simp
  ·have hge:(D.S.length:Int)≤n:=by omega
   simp only[c113,e,h0,hlt,hge,sy,tup,↓reduceIte,zA,zG,zC,zD,zF,zE,zB,zH,reduceCtorEq]
   simp
 ·cases hd:D.dead with
  | false=>
   rw[code_ok hout hd]
   obtain⟨k,rfl⟩:∃ k:Nat,n=(k:Int):=⟨n.toNat,by omega⟩
   exact asked_ok h (by omega) hd lf m
  | true=>
   rw[code_dead hout hd]
   have h0:=load0 h
   have h2:=load2 h
   have hlt:¬ (n < 0):=by omega
   have hge:¬ ((D.S.length:Int)≤n):=by omega
   refine ret_call rfl c113_eq ?_
   obtain⟨v,H1,e,rfl,rfl⟩:=none_ret h hS lf m
   simp only[c113,e,h0,h2,hd,hlt,hge,sy,tup,↓reduceIte,zA,zG,zC,zD,zF,zE,zB,zH,reduceCtorEq]
   simp
theorem Next.idle {H H':Heap} {b:Bk} {y:Lay} {D:Dev} (h:DevAt H b y D) (k:Turns Z H H'):Next H b y D H' y D:=
 ⟨h.turns k id id (fun _=>id),k.wide (fun c hc=>hc.elim),rfl,fun e=>.inl ⟨e,rfl⟩⟩
def Dev.write (D:Dev) (n:Int) (B:Nat):Dev:=if code D n=0 then { D with L:=D.L++[(n.toNat,B)] } else D
noncomputable def Dev.read (D:Dev) (n:Int):Nat:=if code D n=0 then readN D n.toNat else 0
def Dev.sure (D:Dev) (n:Int):Nat:=if code D n=0 then D.S.getD n.toNat 0 else 0
def Dev.flush (D:Dev):Dev:=if D.dead=true then D else { D with S:=flushS D.S D.L,L:=[] }
theorem write_all {H:Heap} {b:Bk} {y:Lay} {D:Dev} (h:DevAt H b y D) (hS:D.S≠[]) (hmax:D.L.length < 1000000) (n:Int) (B:Nat) (lf m:Nat) :
  ret (callS Tryz.prog S0 lf (m+3) 33 [.ptr (some ⟨b,0⟩),.int .i64 n,.blk B] H) fun v H'=>v=.int .i64 (code D n)∧∃ y',Next H b y D H' y' (D.write n B):=by
 have err:∀ z:Int,z=2∨z=9→code D n=z→ret (callS Tryz.prog S0 lf (m+3) 33 [.ptr (some ⟨b,0⟩),.int .i64 n,.blk B] H) fun v H'=>v=.int .i64 (code D n)∧∃ y',Next H b y D H' y' (D.write n B):=by
  intro z hz hc
  have hw:D.write n B=D:=if_neg (by rw[hc];omega)
  have t1:=Turns.add Z H (.rows false 64 [[.blk B]])
  have h':=h.turns t1 id id (fun _=>id)
  have hz0:(z==0)=false:=by simp;omega
  refine ret_call rfl c33_eq ?_
  obtain⟨v,H1,e,rfl,e1⟩:=asked_code h' hS n lf m
  subst e1
  rw[hc] at e
  simp only[c33,e,hz0,sy,tup,↓reduceIte,zA,zG,zC,zD,zF,zE,zB,zH,reduceCtorEq]
  rw[hw,hc]
  exact⟨trivial,.inr trivial,_,rfl,rfl,y,Next.idle h t1⟩
 rcases code_cases D n with ⟨k,rfl,hk,hd,hc⟩ | hc | hc
 ·rw[hc]
  have hw:D.write (k:Int) B={ D with L:=D.L++[(k,B)] }:=if_pos hc
  rw[hw]
  exact write_ok h hk hd hmax B lf m
 ·exact err 2 (.inl rfl) hc
 ·exact err 9 (.inr rfl) hc
theorem read_all {H:Heap} {b:Bk} {y:Lay} {D:Dev} (h:DevAt H b y D) (hS:D.S≠[]) {lf:Nat} (hlf:D.L.length+1 < lf) (hmax:D.L.length < 1000000) (n:Int) (m:Nat) :
  ret (callS Tryz.prog S0 lf (m+3) 112 [.ptr (some ⟨b,0⟩),.int .i64 n] H) fun v H'=>v=.tuple [.blk (D.read n),.int .i64 (code D n)]∧Turns Z H H':=by
 have err:∀ z:Int,z=2∨z=9→code D n=z→ret (callS Tryz.prog S0 lf (m+3) 112 [.ptr (some ⟨b,0⟩),.int .i64 n] H) fun v H'=>v=.tuple [.blk (D.read n),.int .i64 (code D n)]∧Turns Z H H':=by
  intro z hz hc
  have hw:D.read n=0:=if_neg (by rw[hc];omega)
  have t1:=Turns.add Z H (.rows false 64 [[.blk 0]])
  have h':=h.turns t1 id id (fun _=>id)
  have hz0:(z==0)=false:=by simp;omega
  refine ret_call rfl c112_eq ?_
  obtain⟨v,H1,e,rfl,e1⟩:=asked_code h' hS n lf m
  subst e1
  rw[hc] at e
  simp only[c112,e,hz0,sy,tup,↓reduceIte,zA,zG,zC,zD,zF,zE,zB,zH,reduceCtorEq]
  rw[hw,hc]
  exact⟨trivial,.inr trivial,_,rfl,rfl,t1.setnew (Nat.le_refl _) _⟩
 rcases code_cases D n with ⟨k,rfl,hk,hd,hc⟩ | hc | hc
 ·have hw:D.read (k:Int)=readN D k:=if_pos hc
  rw[hc,hw]
  exact read_ok h hk hd hlf hmax m
 ·exact err 2 (.inl rfl) hc
 ·exact err 9 (.inr rfl) hc
theorem DevAt.kill {H:Heap} {b:Bk} {y:Lay} {D:Dev} (h:DevAt H b y D) (x:Bool):DevAt (H.set b (.rows false 3 [[.slice (some ⟨y.s,0⟩) D.S.length D.S.length y.so,.slice y.p D.L.length D.L.length y.o,.bool x]])) b y { D with dead:=x }:=by
 refine⟨?_,?_,h.nil,fun e=>⟨(h.loose e).1,(h.loose e).2.1,?_⟩,?_,h.ne⟩
 ·rw[Heap.get_set,if_pos rfl]
 ·rw[Heap.get_set,if_neg (Ne.symm h.ne.1)];exact h.sure
 ·rw[Heap.get_set,if_neg (Ne.symm (h.ne.2 e).1)];exact(h.loose e).2.2
 ·simpa using h.old
theorem sectors_ok {H:Heap} {b:Bk} {y:Lay} {D:Dev} (h:DevAt H b y D) (hS:D.S≠[]) (lf m:Nat):ret (callS Tryz.prog S0 lf (m+2) 115 [.ptr (some ⟨b,0⟩)] H) fun v H'=>v=.int .i64 (D.S.length:Int)∧H'=H:=by
 have l0:=load0 h
 refine ret_call rfl c115_eq ?_
 obtain⟨v,H1,e,rfl,rfl⟩:=none_ret h hS lf m
 simp only[c115,e,l0,sy,tup,↓reduceIte,zA,zG,zC,zD,zF,zE,zB,zH,reduceCtorEq]
 simp
end Go.Proofs.YtllkepkaimnodaaGreatDoor.disk
namespace Go.Proofs.YtllkepkaimnodaaGreatDoor.disk
open Go.Am
noncomputable def c94:CFn:=⟨[.tmp (pp 2)],
 .seq (.reg [
 qo 2 (.p (S.get (.c (.bool false)))) []]) (
 .seq (.reg [
 mv 3 0,
 qo 4 (.r (eqnF false .ptr (tt 3) (.c (.ptr none)))) [pp 3],
 mv 5 4,
 mg 6 0 5 false,
 qg 7 (.p (nilcF (tt 6))) 5 false [pp 6],
 qg 8 (.p (faddrF (tt 7) 0)) 5 false [pp 7],
 qg 9 (.r (loadF (tt 8) 1 .sc)) 5 false [pp 8],
 qg 10 (.p (lenF (tt 9))) 5 false [pp 9],
 qg 11 (.p (eqcF false false [.int .i64] (tt 10) (ii 0))) 5 false [pp 10],
 qo 12 (.p (pickF (tt 5) (.c (.bool true)) (tt 11))) [pp 5,pp 11],
 mv 2 12]) (
 .ret))⟩
theorem c94_eq:fnOf Tryz.prog 94=some c94:=by kernel_rfl
noncomputable def c164:CFn:=⟨[.tmp (pp 4)],
 .seq (.reg [
 qo 4 (.p (S.get (.c (.bool false)))) []]) (
 .seq (.reg [
 mv 5 1,
 qo 6 (.p (arF .geq (tt 5) (ii 0))) [pp 5],
 mv 7 6,
 mg 8 1 7 true,
 mg 9 0 7 true,
 qg 10 (.p (nilcF (tt 9))) 7 true [pp 9],
 qg 11 (.p (faddrF (tt 10) 0)) 7 true [pp 10],
 qg 12 (.r (loadF (tt 11) 1 .sc)) 7 true [pp 11],
 qg 13 (.p (lenF (tt 12))) 7 true [pp 12],
 qg 14 (.p (arF .lss (tt 8) (tt 13))) 7 true [pp 8,pp 13],
 qo 15 (.p (pickF (tt 7) (tt 14) (.c (.bool false)))) [pp 7,pp 14],
 mv 4 15]) (
 .ret))⟩
theorem c164_eq:fnOf Tryz.prog 164=some c164:=by kernel_rfl
noncomputable def c102:CFn:=⟨[.tmp (pp 4)],
 .seq (.reg [
 qo 4 (.p (S.get (ii 0))) []]) (
 .seq (.block 0 (.seq (.reg [
 mv 6 0,
 qo 7 (.c (callF (ff 94) [(tt 6)])) [pp 6],
 mv 5 7]) (
 .cond (tt 5) (.seq (.reg [
 qo 4 (.p (S.get (ii 1))) []]) (
 .ret)) (.seq (.reg [
 mv 9 0,
 mv 10 1,
 qo 11 (.c (callF (ff 164) [(tt 9),(tt 10)])) [pp 9,pp 10],
 qo 12 (.p (unF .not (tt 11))) [pp 11],
 mv 8 12]) (
 .cond (tt 8) (.seq (.reg [
 qo 4 (.p (S.get (ii 2))) []]) (
 .ret)) (.skip)))))) (
 .seq (.reg [
 qo 4 (.p (S.get (ii 0))) []]) (
 .ret)))⟩
theorem c102_eq:fnOf Tryz.prog 102=some c102:=by kernel_rfl
noncomputable def c111:CFn:=⟨[.tmp (pp 4)],
 .seq (.reg [
 qo 4 (.p (S.get (ii 0))) []]) (
 .seq (.seq (.reg [
 mv 5 0,
 qo 6 (.c (callF (ff 94) [(tt 5)])) [pp 5],
 qo 7 (.p (unF .not (tt 6))) [pp 6],
 mv 8 7,
 mg 9 0 8 true,
 qg 10 (.p (nilcF (tt 9))) 8 true [pp 9],
 qg 11 (.p (faddrF (tt 10) 3)) 8 true [pp 10],
 qg 12 (.r (loadF (tt 11) 1 .sc)) 8 true [pp 11],
 qo 13 (.p (pickF (tt 8) (tt 12) (.c (.bool false)))) [pp 8,pp 12]]) (
 .cond (tt 13) (.seq (.reg [
 qo 4 (.p (S.get (ii 8))) []]) (
 .ret)) (.skip))) (
 .seq (.reg [
 mv 14 0,
 mv 15 1,
 qo 16 (.c (callF (ff 102) [(tt 14),(tt 15)])) [pp 14,pp 15],
 mv 4 16]) (
 .ret)))⟩
theorem c111_eq:fnOf Tryz.prog 111=some c111:=by kernel_rfl
noncomputable def c30:CFn:=⟨[.cell (pp 6) 64 .bk,.tmp (pp 7)],
 .seq (.reg [
 qo 6 (.m (allocF 64 [.blk 0])) [],
 qo 7 (.p (S.get (ii 0))) []]) (
 .seq (.seq (.reg [
 mv 9 0,
 mv 10 1,
 qo 11 (.c (callF (ff 111) [(tt 9),(tt 10)])) [pp 9,pp 10],
 mv 8 11]) (
 .seq (.reg [
 mv 12 8,
 qo 13 (.p (eqcF true false [.int .i64] (tt 12) (ii 0))) [pp 12]]) (
 .cond (tt 13) (.seq (.reg [
 qo 14 (.p (buildF [.blk 0] .bk [])) [],
 mv 15 8,
 qn (.a (storeF (tt 6) (tt 14) 64)) [pp 6,pp 14],
 mv 7 15]) (
 .ret)) (.skip)))) (
 .seq (.reg [
 mv 16 0,
 qo 17 (.p (nilcF (tt 16))) [pp 16],
 qo 18 (.p (faddrF (tt 17) 0)) [pp 17],
 qo 19 (.r (loadF (tt 18) 1 .sc)) [pp 18],
 mv 20 1,
 qo 21 (.p (iaddrSF (tt 19) (tt 20) 1)) [pp 19,pp 20],
 qo 22 (.r (loadF (tt 21) 1 .sc)) [pp 21],
 mv 23 2,
 qo 24 (.c (callF (ff 112) [(tt 22),(tt 23)])) [pp 22,pp 23],
 qo 25 (.p (extF (tt 24) 0)) [pp 24],
 qo 26 (.p (extF (tt 24) 1)) [pp 24],
 qn (.a (storeF (tt 6) (tt 25) 64)) [pp 6,pp 25],
 mv 7 26]) (
 .ret)))⟩
theorem c30_eq:fnOf Tryz.prog 30=some c30:=by kernel_rfl
noncomputable def c31:CFn:=⟨[.tmp (pp 4)],
 .seq (.reg [
 qo 4 (.p (S.get (ii 0))) []]) (
 .seq (.seq (.reg [
 mv 5 0,
 qo 6 (.p (nilcF (tt 5))) [pp 5],
 qo 7 (.p (faddrF (tt 6) 2)) [pp 6],
 qo 8 (.r (loadF (tt 7) 1 .sc)) [pp 7]]) (
 .block 0 (.seq (.reg [
 qo 17 (.p (eqcF false false [.int .i64] (tt 8) (ii 0))) [pp 8],
 mv 16 17]) (
 .cond (tt 16) (.skip) (.seq (.reg [
 qo 19 (.p (eqcF false false [.int .i64] (tt 8) (ii 1))) [pp 8],
 mv 18 19]) (
 .cond (tt 18) (.seq (.reg [
 mv 20 0,
 qo 21 (.p (nilcF (tt 20))) [pp 20],
 qo 22 (.p (faddrF (tt 21) 3)) [pp 21],
 qn (.a (storeF (tt 22) (.c (.bool true)) 1)) [pp 22]]) (
 .seq (.reg [
 qo 4 (.p (S.get (ii 8))) []]) (
 .ret))) (.reg [
 mv 9 0,
 qo 10 (.p (nilcF (tt 9))) [pp 9],
 qo 11 (.p (faddrF (tt 10) 2)) [pp 10],
 qo 12 (.r (loadF (tt 11) 1 .sc)) [pp 11],
 qo 13 (.p (arF .sub (tt 12) (ii 1))) [pp 12],
 qo 14 (.p (nilcF (tt 9))) [pp 9],
 qo 15 (.p (faddrF (tt 14) 2)) [pp 14],
 qn (.a (storeF (tt 15) (tt 13) 1)) [pp 15,pp 13]]))))))) (
 .seq (.reg [
 mv 23 0,
 qo 24 (.p (nilcF (tt 23))) [pp 23],
 qo 25 (.p (faddrF (tt 24) 1)) [pp 24],
 qo 26 (.r (loadF (tt 25) 1 .sc)) [pp 25],
 qo 27 (.p (arF .add (tt 26) (ii 1))) [pp 26],
 qo 28 (.p (nilcF (tt 23))) [pp 23],
 qo 29 (.p (faddrF (tt 28) 1)) [pp 28],
 qn (.a (storeF (tt 29) (tt 27) 1)) [pp 29,pp 27]]) (
 .seq (.reg [
 mv 30 1,
 qo 31 (.c (callF (tt 30) [])) [pp 30],
 mv 4 31]) (
 .ret))))⟩
theorem c31_eq:fnOf Tryz.prog 31=some c31:=by kernel_rfl
noncomputable def c32:CFn:=⟨[.tmp (pp 4)],
 .seq (.reg [
 qo 4 (.p (S.get (ii 0))) []]) (
 .seq (.regD [
 qo 5 (.r (loadF (tt 0) 1 .sc)) [pp 0],
 qo 6 (.p (nilcF (tt 5))) [pp 5],
 qo 7 (.p (faddrF (tt 6) 0)) [pp 6],
 qo 8 (.r (loadF (tt 7) 1 .sc)) [pp 7],
 qo 9 (.r (loadF (tt 1) 1 .sc)) [pp 1],
 qo 10 (.p (iaddrSF (tt 8) (tt 9) 1)) [pp 8,pp 9],
 qo 11 (.r (loadF (tt 10) 1 .sc)) [pp 10],
 qo 12 (.r (loadF (tt 2) 1 .sc)) [pp 2],
 qo 13 (.r (loadF (tt 3) 64 .bk)) [pp 3],
 qo 14 (.c (callF (ff 33) [(tt 11),(tt 12),(tt 13)])) [pp 11,pp 12,pp 13],
 mv 4 14] [0,1,3,7,0,31,63,0,0,511,1023]) (
 .ret))⟩
theorem c32_eq:fnOf Tryz.prog 32=some c32:=by kernel_rfl
noncomputable def c8:CFn:=⟨[.tmp (pp 8)],
 .seq (.reg [
 qo 4 (.m (boxF 1 (tt 0))) [pp 0],
 qo 5 (.m (boxF 1 (tt 1))) [pp 1],
 qo 6 (.m (boxF 1 (tt 2))) [pp 2],
 qo 7 (.m (boxF 64 (tt 3))) [pp 3],
 qo 8 (.p (S.get (ii 0))) []]) (
 .seq (.seq (.reg [
 qo 12 (.r (loadF (tt 4) 1 .sc)) [pp 4],
 qo 13 (.r (loadF (tt 5) 1 .sc)) [pp 5],
 qo 14 (.r (loadF (tt 6) 1 .sc)) [pp 6],
 qo 15 (.c (callF (ff 30) [(tt 12),(tt 13),(tt 14)])) [pp 12,pp 13,pp 14],
 mv 11 15,
 qo 16 (.p (extF (tt 11) 0)) [pp 11],
 qo 17 (.p (extF (tt 11) 1)) [pp 11],
 qo 9 (.m (allocF 64 [.blk 0])) [],
 qn (.a (storeF (tt 9) (tt 16) 64)) [pp 9,pp 16],
 mv 10 17]) (
 .seq (.reg [
 mv 18 10,
 qo 19 (.p (eqcF true false [.int .i64] (tt 18) (ii 0))) [pp 18]]) (
 .cond (tt 19) (.seq (.reg [
 mv 20 10,
 mv 8 20]) (
 .ret)) (.skip)))) (
 .seq (.reg [
 qo 21 (.r (loadF (tt 4) 1 .sc)) [pp 4],
 qo 22 (.p (mkfnF (.func 32) [] [(tt 4),(tt 5),(tt 6),(tt 7)])) [pp 4,pp 5,pp 6,pp 7],
 qo 23 (.c (callF (ff 31) [(tt 21),(tt 22)])) [pp 21,pp 22],
 mv 8 23]) (
 .ret)))⟩
theorem c8_eq:fnOf Tryz.prog 8=some c8:=by kernel_rfl
structure Dv where
 b:Bk
 y:Lay
 D:Dev
def Dv.foot (x:Dv):Bk→Prop:=Foot x.b x.y x.D
structure DvsAt (H:Heap) (b ds:Bk) (so:Nat) (l:List Dv) (r1 r2 r3:V):Prop where
 own:H.get b=some (.rows false 4 [[.slice (some ⟨ds,0⟩) l.length l.length so,r1,r2,r3]])
 ptrs:H.get ds=some (.rows false 1 (l.map fun x=>[.ptr (some ⟨x.b,0⟩)]))
 dev:∀ i (h:i < l.length),DevAt H l[i].b l[i].y l[i].D
 sep:∀ i j (hi:i < l.length) (hj:j < l.length),i≠j→Sep l[i].b l[i].y l[i].D l[j].b l[j].y l[j].D
 old:H.Old b∧H.Old ds
 ne:b≠ds
 out:∀ i (h:i < l.length),¬ l[i].foot b∧¬ l[i].foot ds
theorem DvsAt.turns {H H':Heap} {b ds:Bk} {so:Nat} {l:List Dv} {r1 r2 r3:V} (h:DvsAt H b ds so l r1 r2 r3) (k:Turns Z H H'):DvsAt H' b ds so l r1 r2 r3:=
 ⟨(k.same _ h.old.1 id).trans h.own,(k.same _ h.old.2 id).trans h.ptrs,fun i hi=>(h.dev i hi).turns k id id (fun _=>id),h.sep,⟨h.old.1.mono k.next,h.old.2.mono k.next⟩,h.ne,h.out⟩
theorem DvsAt.step {H H':Heap} {b ds:Bk} {so:Nat} {l:List Dv} {r1 r2 r3:V} (h:DvsAt H b ds so l r1 r2 r3) {i:Nat} (hi:i < l.length) {y':Lay} {D':Dev} (k:Next H l[i].b l[i].y l[i].D H' y' D'):DvsAt H' b ds so (l.set i ⟨l[i].b,y',D'⟩) r1 r2 r3:=by
 have hb:=(h.out i hi).1
 have hd:=(h.out i hi).2
 have hnew:∀ c,Foot l[i].b y' D' c→l[i].foot c∨¬ H.Old c:=by
  rintro c (rfl | rfl | ⟨hl,rfl⟩)
  ·exact .inl (.inl rfl)
  ·exact .inl (.inr (.inl k.s))
  ·rcases k.l hl with ⟨h1,h2⟩ | h1
   ·exact .inl (.inr (.inr ⟨h1,h2⟩))
   ·exact .inr h1
 refine⟨?_,?_,fun j hj=>?_,fun p q hp hq hpq=>?_,⟨h.old.1.mono k.turns.next,h.old.2.mono k.turns.next⟩,h.ne,fun j hj=>?_⟩
 ·rw[List.length_set];exact(k.turns.same _ h.old.1 hb).trans h.own
 ·have e:((l.set i ⟨l[i].b,y',D'⟩).map fun x=>[V.ptr (some ⟨x.b,0⟩)])=l.map fun x=>[V.ptr (some ⟨x.b,0⟩)]:=by
   rw[List.map_set]
   apply List.ext_getElem
   ·simp
   ·intro n h1 h2
    rw[List.getElem_set]
    split
    ·rename_i e;subst e;simp
    ·rfl
  rw[e];exact(k.turns.same _ h.old.2 hd).trans h.ptrs
 ·have hj':j < l.length:=by simpa using hj
  by_cases e:i=j
  ·subst e
   rw[List.getElem_set_self]
   exact k.dev
  ·rw[List.getElem_set_ne e]
   exact(h.sep i j hi hj' e).dev (h.dev j hj') k.turns
 ·have hp':p < l.length:=by simpa using hp
  have hq':q < l.length:=by simpa using hq
  by_cases e1:i=p
  ·subst e1
   rw[List.getElem_set_self,List.getElem_set_ne hpq]
   exact(h.sep i q hi hq' hpq).next (h.dev q hq') k
  ·by_cases e2:i=q
   ·subst e2
    rw[List.getElem_set_self,List.getElem_set_ne e1]
    exact((h.sep i p hi hp' e1).next (h.dev p hp') k).symm
   ·rw[List.getElem_set_ne e1,List.getElem_set_ne e2]
    exact h.sep p q hp' hq' hpq
 ·have hj':j < l.length:=by simpa using hj
  by_cases e:i=j
  ·subst e
   rw[List.getElem_set_self]
   refine⟨fun hc=>?_,fun hc=>?_⟩
   ·rcases hnew _ hc with hc | hc
    ·exact hb hc
    ·exact hc h.old.1
   ·rcases hnew _ hc with hc | hc
    ·exact hd hc
    ·exact hc h.old.2
  ·rw[List.getElem_set_ne e]
   exact h.out j hj'
theorem DvsAt.put {H:Heap} {b ds:Bk} {so:Nat} {l:List Dv} {r1 r2 r3:V} (h:DvsAt H b ds so l r1 r2 r3) (r1' r2' r3':V):DvsAt (H.set b (.rows false 4 [[.slice (some ⟨ds,0⟩) l.length l.length so,r1',r2',r3']])) b ds so l r1' r2' r3':=by
 refine⟨?_,?_,fun i hi=>(h.dev i hi).turns (Turns.set (X:=fun c=>c=b) rfl _ _) (fun e=>(h.out i hi).1 (.inl e.symm)) (fun e=>(h.out i hi).1 (.inr (.inl e.symm))) (fun hl e=>(h.out i hi).1 (.inr (.inr ⟨hl,e.symm⟩))),h.sep,by simpa using h.old,h.ne,h.out⟩
 ·rw[Heap.get_set,if_pos rfl]
 ·rw[Heap.get_set,if_neg (Ne.symm h.ne)];exact h.ptrs
abbrev BenchAt (H:Heap) (b ds:Bk) (so:Nat) (l:List Dv) (st ar:Int) (dk:Bool):Prop:=DvsAt H b ds so l (.int .i64 st) (.int .i64 ar) (.bool dk)
theorem BenchAt.put {H:Heap} {b ds:Bk} {so:Nat} {l:List Dv} {st ar:Int} {dk:Bool} (h:BenchAt H b ds so l st ar dk) (st' ar':Int) (dk':Bool):BenchAt (H.set b (.rows false 4 [[.slice (some ⟨ds,0⟩) l.length l.length so,.int .i64 st',.int .i64 ar',.bool dk']])) b ds so l st' ar' dk':=DvsAt.put h _ _ _
section
variable {H:Heap} {b ds:Bk} {so:Nat} {l:List Dv} {st ar:Int} {dk:Bool} (h:BenchAt H b ds so l st ar dk)
include h
theorem bload0:loadAt H ⟨b,0⟩ 1=some [.slice (some ⟨ds,0⟩) l.length l.length so]:=by rw[loadAt_eq h.own (by exact rfl)];rfl
theorem bload1:loadAt H ⟨b,1⟩ 1=some [.int .i64 st]:=by rw[loadAt_eq h.own (by exact rfl)];rfl
theorem bload2:loadAt H ⟨b,2⟩ 1=some [.int .i64 ar]:=by rw[loadAt_eq h.own (by exact rfl)];rfl
theorem bload3:loadAt H ⟨b,3⟩ 1=some [.bool dk]:=by rw[loadAt_eq h.own (by exact rfl)];rfl
theorem bloadP {i:Nat} (hi:i < l.length):loadAt H ⟨ds,i⟩ 1=some [.ptr (some ⟨l[i].b,0⟩)]:=by
 rw[loadAt_eq h.ptrs (r:=[.ptr (some ⟨l[i].b,0⟩)]) (nth_of (by rw[Nat.div_one];simp[hi])),Nat.mod_one]
 exact cut_hit _ _ rfl
theorem bstore1 (x:Int):storeAt H ⟨b,1⟩ [.int .i64 x]=some (H.set b (.rows false 4 [[.slice (some ⟨ds,0⟩) l.length l.length so,.int .i64 x,.int .i64 ar,.bool dk]])):=storeAt_eq h.own (r:=[.slice (some ⟨ds,0⟩) l.length l.length so,.int .i64 st,.int .i64 ar,.bool dk]) rfl rfl
theorem bstore2 (x:Int):storeAt H ⟨b,2⟩ [.int .i64 x]=some (H.set b (.rows false 4 [[.slice (some ⟨ds,0⟩) l.length l.length so,.int .i64 st,.int .i64 x,.bool dk]])):=storeAt_eq h.own (r:=[.slice (some ⟨ds,0⟩) l.length l.length so,.int .i64 st,.int .i64 ar,.bool dk]) rfl rfl
theorem bstore3 (x:Bool):storeAt H ⟨b,3⟩ [.bool x]=some (H.set b (.rows false 4 [[.slice (some ⟨ds,0⟩) l.length l.length so,.int .i64 st,.int .i64 ar,.bool x]])):=storeAt_eq h.own (r:=[.slice (some ⟨ds,0⟩) l.length l.length so,.int .i64 st,.int .i64 ar,.bool dk]) rfl rfl
theorem bnone (hl:l≠[]) (lf m:Nat):callS Tryz.prog S0 lf (m+1) 94 [.ptr (some ⟨b,0⟩)] H=some (.v (.bool false),H):=by
 have l0:=bload0 h
 obtain⟨v,H',e,rfl,rfl⟩:ret (callS Tryz.prog S0 lf (m+1) 94 [.ptr (some ⟨b,0⟩)] H) fun v H'=>v=.bool false∧H'=H:=by
  refine ret_call rfl c94_eq ?_
  simp only[c94,l0,sy,tup,↓reduceIte,zA,zG,zC,zD,zF,zE,zB,zH,reduceCtorEq]
  simp[hl]
 exact e
theorem bhas {i:Nat} (hi:i < l.length) (lf m:Nat):callS Tryz.prog S0 lf (m+1) 164 [.ptr (some ⟨b,0⟩),.int .i64 (i:Int)] H=some (.v (.bool true),H):=by
 have l0:=bload0 h
 have g0:(0:Int)≤(i:Int):=by omega
 obtain⟨v,H',e,rfl,rfl⟩:ret (callS Tryz.prog S0 lf (m+1) 164 [.ptr (some ⟨b,0⟩),.int .i64 (i:Int)] H) fun v H'=>v=.bool true∧H'=H:=by
  refine ret_call rfl c164_eq ?_
  simp only[c164,l0,g0,hi,sy,tup,↓reduceIte,zA,zG,zC,zD,zF,zE,zB,zH,reduceCtorEq]
  simp
 exact e
theorem bthere {i:Nat} (hi:i < l.length) (lf m:Nat):callS Tryz.prog S0 lf (m+2) 102 [.ptr (some ⟨b,0⟩),.int .i64 (i:Int)] H=some (.v (.int .i64 0),H):=by
 have e1:=bnone h (fun e=>by rw[e] at hi;simp at hi) lf m
 have e2:=bhas h hi lf m
 obtain⟨v,H',e,rfl,rfl⟩:ret (callS Tryz.prog S0 lf (m+2) 102 [.ptr (some ⟨b,0⟩),.int .i64 (i:Int)] H) fun v H'=>v=.int .i64 0∧H'=H:=by
  refine ret_call rfl c102_eq ?_
  simp only[c102,e1,e2,sy,tup,↓reduceIte,zA,zG,zC,zD,zF,zE,zB,zH,reduceCtorEq]
  simp
 exact e
theorem blit {i:Nat} (hi:i < l.length) (hd:dk=false) (lf m:Nat):callS Tryz.prog S0 lf (m+3) 111 [.ptr (some ⟨b,0⟩),.int .i64 (i:Int)] H=some (.v (.int .i64 0),H):=by
 subst hd
 have e1:=bnone h (fun e=>by rw[e] at hi;simp at hi) lf (m+1)
 have e2:=bthere h hi lf m
 have l3:=bload3 h
 change callS Tryz.prog S0 lf (m+2) 94 [.ptr (some ⟨b,0⟩)] H=_ at e1
 obtain⟨v,H',e,rfl,rfl⟩:ret (callS Tryz.prog S0 lf (m+3) 111 [.ptr (some ⟨b,0⟩),.int .i64 (i:Int)] H) fun v H'=>v=.int .i64 0∧H'=H:=by
  refine ret_call rfl c111_eq ?_
  simp only[c111,e1,e2,l3,sy,tup,↓reduceIte,zA,zG,zC,zD,zF,zE,zB,zH,reduceCtorEq]
  simp
 exact e
theorem blit_dark (hl:l≠[]) (hd:dk=true) (d:Int) (lf m:Nat):callS Tryz.prog S0 lf (m+3) 111 [.ptr (some ⟨b,0⟩),.int .i64 d] H=some (.v (.int .i64 8),H):=by
 subst hd
 have e1:=bnone h hl lf (m+1)
 have l3:=bload3 h
 change callS Tryz.prog S0 lf (m+2) 94 [.ptr (some ⟨b,0⟩)] H=_ at e1
 obtain⟨v,H',e,rfl,rfl⟩:ret (callS Tryz.prog S0 lf (m+3) 111 [.ptr (some ⟨b,0⟩),.int .i64 d] H) fun v H'=>v=.int .i64 8∧H'=H:=by
  refine ret_call rfl c111_eq ?_
  simp only[c111,e1,l3,sy,tup,↓reduceIte,zA,zG,zC,zD,zF,zE,zB,zH,reduceCtorEq]
  simp
 exact e
theorem bread {i:Nat} (hi:i < l.length) (hd:dk=false) (n:Int) {lf:Nat} (hS:l[i].D.S≠[]) (hlf:l[i].D.L.length+1 < lf) (hmax:l[i].D.L.length < 1000000) (m:Nat) :
  ret (callS Tryz.prog S0 lf (m+4) 30 [.ptr (some ⟨b,0⟩),.int .i64 (i:Int),.int .i64 n] H) fun v H'=>v=.tuple [.blk (l[i].D.read n),.int .i64 (code l[i].D n)]∧Turns Z H H':=by
 have t1:=Turns.add Z H (.rows false 64 [[.blk 0]])
 have h':=h.turns t1
 have e1:=blit h' hi hd lf m
 have l0:=bload0 h'
 have lp:=bloadP h' hi
 have hi1:i+1≤l.length:=hi
 obtain⟨v,H1,e2,rfl,t2⟩:=read_all (h'.dev i hi) hS hlf hmax n m
 have g0:H1.get (.run H.next)=some (.rows false 64 [[.blk 0]]):=by
  rw[t2.same _ (by show _ < _;simp) id,Heap.get_add,if_pos rfl]
 have st:=cell_store (v:=l[i].D.read n) g0
 refine ret_call rfl c30_eq ?_
 simp only[c30,e1,l0,lp,hi1,e2,st,Nat.mul_one,sy,tup,↓reduceIte,zA,zG,zC,zD,zF,zE,zB,zH,reduceCtorEq]
 exact⟨trivial,.inr trivial,_,rfl,rfl,(t1.trans t2).setnew (Nat.le_refl _) _⟩
end
end Go.Proofs.YtllkepkaimnodaaGreatDoor.disk
namespace Go.Proofs.YtllkepkaimnodaaGreatDoor.disk
open Go.Am
theorem load1_of {H:Heap} {c:Bk} {x:V} (h:H.get c=some (.rows false 1 [[x]])) (hx:x.asBlk=none):loadAt H ⟨c,0⟩ 1=some [x]:=by
 rw[loadAt_eq h (r:=[x]) rfl];exact cut_hit _ _ hx
def arLess (ar:Int):Int:=if ar=0 then 0 else ar - 1
theorem bstep_cut {H:Heap} {b ds:Bk} {so:Nat} {l:List Dv} {st:Int} {dk:Bool} (h:BenchAt H b ds so l st 1 dk) (f:V) (lf m:Nat) :
  callS Tryz.prog S0 lf (m+1) 31 [.ptr (some ⟨b,0⟩),f] H=some (.v (.int .i64 8),H.set b (.rows false 4 [[.slice (some ⟨ds,0⟩) l.length l.length so,.int .i64 st,.int .i64 1,.bool true]])):=by
 have l2:=bload2 h
 have s3:=bstore3 h true
 obtain⟨v,H',e,rfl,rfl⟩:ret (callS Tryz.prog S0 lf (m+1) 31 [.ptr (some ⟨b,0⟩),f] H) fun v H'=>v=.int .i64 8∧H'=H.set b (.rows false 4 [[.slice (some ⟨ds,0⟩) l.length l.length so,.int .i64 st,.int .i64 1,.bool true]]):=by
  refine ret_call rfl c31_eq ?_
  simp only[c31,l2,s3,sy,tup,↓reduceIte,zA,zG,zC,zD,zF,zE,zB,zH,reduceCtorEq]
  simp
 exact e
theorem bstep_go {H:Heap} {b ds:Bk} {so:Nat} {l:List Dv} {st ar:Int} {dk:Bool} (h:BenchAt H b ds so l st ar dk) (h1:ar≠1) (ha:0≤ar∧ar≤9223372036854775807) (hs:0≤st∧st≤100000) (lf m:Nat) :
  ∃ H1,BenchAt H1 b ds so l (st+1) (arLess ar) dk∧Turns (fun c=>c=b) H H1∧∀ id first cap v H',callS Tryz.prog S0 lf m id (first++cap) H1=some (.v v,H')→callS Tryz.prog S0 lf (m+1) 31 [.ptr (some ⟨b,0⟩),.func (.func id) first cap] H=some (.v v,H'):=by
 have l2:=bload2 h
 have z1:(ar==1)=false:=by simp;exact h1
 have w1:IntKind.i64.wrap (st+1)=st+1:=wrap_i64 (by omega)
 by_cases h0:ar=0
 ·subst h0
  have l1:=bload1 h
  have s1:=bstore1 h (st+1)
  refine⟨_,h.put (st+1) 0 dk,Turns.set (X:=fun c=>c=b) rfl _ _,fun id first cap v H' e=>?_⟩
  obtain⟨v',H'',e',rfl,rfl⟩:ret (callS Tryz.prog S0 lf (m+1) 31 [.ptr (some ⟨b,0⟩),.func (.func id) first cap] H) fun v' H''=>v'=v∧H''=H':=by
   refine ret_call rfl c31_eq ?_
   simp only[c31,l2,l1,s1,w1,e,sy,tup,↓reduceIte,zA,zG,zC,zD,zF,zE,zB,zH,reduceCtorEq]
   simp
  exact e'
 ·have z0:(ar==0)=false:=by simp;exact h0
  have w2:IntKind.i64.wrap (ar - 1)=ar - 1:=wrap_i64 (by omega)
  have s2:=bstore2 h (ar - 1)
  have hm:=h.put st (ar - 1) dk
  have l1:=bload1 hm
  have s1:=bstore1 hm (st+1)
  have hal:arLess ar=ar - 1:=if_neg h0
  refine⟨_,by rw[hal];exact hm.put (st+1) (ar - 1) dk,(Turns.set (X:=fun c=>c=b) rfl _ _).setm rfl _,fun id first cap v H' e=>?_⟩
  obtain⟨v',H'',e',rfl,rfl⟩:ret (callS Tryz.prog S0 lf (m+1) 31 [.ptr (some ⟨b,0⟩),.func (.func id) first cap] H) fun v' H''=>v'=v∧H''=H':=by
   refine ret_call rfl c31_eq ?_
   simp only[c31,l2,z0,z1,w2,s2,l1,s1,w1,e,sy,tup,↓reduceIte,zA,zG,zC,zD,zF,zE,zB,zH,reduceCtorEq]
   simp
  exact e'
theorem wclos {K:Heap} {b ds:Bk} {so:Nat} {l:List Dv} {st ar:Int} {dk:Bool} (h:BenchAt K b ds so l st ar dk) {i:Nat} (hi:i < l.length) (hS:l[i].D.S≠[]) (hmax:l[i].D.L.length < 1000000) (n:Int) (B:Nat) {c0 c1 c2 c3:Bk}
  (g0:K.get c0=some (.rows false 1 [[.ptr (some ⟨b,0⟩)]])) (g1:K.get c1=some (.rows false 1 [[.int .i64 (i:Int)]])) (g2:K.get c2=some (.rows false 1 [[.int .i64 n]])) (g3:K.get c3=some (.rows false 64 [[.blk B]])) (lf m:Nat) :
  ret (callS Tryz.prog S0 lf (m+4) 32 [.ptr (some ⟨c0,0⟩),.ptr (some ⟨c1,0⟩),.ptr (some ⟨c2,0⟩),.ptr (some ⟨c3,0⟩)] K) fun v H'=>v=.int .i64 (code l[i].D n)∧∃ y',Next K l[i].b l[i].y l[i].D H' y' (l[i].D.write n B):=by
 have d0:=load1_of g0 rfl
 have d1:=load1_of g1 rfl
 have d2:=load1_of g2 rfl
 have d3:=load_of g3
 have l0:=bload0 h
 have lp:=bloadP h hi
 have hi1:i+1≤l.length:=hi
 obtain⟨v,H1,e,rfl,y',hN⟩:=write_all (h.dev i hi) hS hmax n B lf m
 refine ret_call rfl c32_eq ?_
 simp only[c32,d0,d1,d2,d3,l0,lp,hi1,e,Nat.mul_one,sy,tup,↓reduceIte,zA,zG,zC,zD,zF,zE,zB,zH,reduceCtorEq]
 rw[endD_ok (by kernel_rfl) (by kernel_rfl)]
 simp only[sy,tup,↓reduceIte,zA,zG,zC,zD,zF,zE,zB,zH,reduceCtorEq]
 exact⟨trivial,.inr trivial,_,rfl,rfl,y',hN⟩
structure Did (H:Heap) (b ds:Bk) (so:Nat) (l:List Dv) (st ar:Int) (i:Nat) (hi:i < l.length) (D':Dev) (H':Heap) (y':Lay):Prop where
 at':BenchAt H' b ds so (l.set i ⟨l[i].b,y',D'⟩) (st+1) (arLess ar) false
 turns:Turns (fun c=>c=b∨l[i].foot c) H H'
 foot:∀ c,Foot l[i].b y' D' c→l[i].foot c∨¬ H.Old c
theorem did_of {H H1 H2 H':Heap} {b ds:Bk} {so:Nat} {l:List Dv} {st ar:Int} {i:Nat} {hi:i < l.length} (t:Turns Z H H1) (h2:BenchAt H2 b ds so l (st+1) (arLess ar) false) (t2:Turns (fun c=>c=b) H1 H2) {y':Lay} {D':Dev} (hN:Next H2 l[i].b l[i].y l[i].D H' y' D'):Did H b ds so l st ar i hi D' H' y':=by
 refine⟨h2.step hi hN,?_,fun c hc=>?_⟩
 ·exact((t.wide (fun c hc=>hc.elim)).trans (t2.wide (fun c hc=>.inl hc))).trans (hN.turns.wide (fun c hc=>.inr hc))
 ·have hn:=t.next
  have hn2:=t2.next
  rcases hc with rfl | rfl | ⟨hl,rfl⟩
  ·exact .inl (.inl rfl)
  ·exact .inl (.inr (.inl hN.s))
  ·rcases hN.l hl with ⟨k1,k2⟩ | k1
   ·exact .inl (.inr (.inr ⟨k1,k2⟩))
   ·exact .inr (fun o=>k1 ((o.mono hn).mono hn2))
theorem bwrite {H:Heap} {b ds:Bk} {so:Nat} {l:List Dv} {st ar:Int} (h:BenchAt H b ds so l st ar false) (ha:0≤ar∧ar≤9223372036854775807) (hs:0≤st∧st≤100000) {i:Nat} (hi:i < l.length) (n:Int) (B:Nat) {lf:Nat} (hS:l[i].D.S≠[]) (hlf:l[i].D.L.length+1 < lf) (hmax:l[i].D.L.length < 1000000) (hc:code l[i].D n=0) (m:Nat) :
  ret (callS Tryz.prog S0 lf (m+6) 8 [.ptr (some ⟨b,0⟩),.int .i64 (i:Int),.int .i64 n,.blk B] H) fun v H'=>(ar=1∧v=.int .i64 8∧BenchAt H' b ds so l st 1 true∧Turns (fun c=>c=b) H H')∨(ar≠1∧v=.int .i64 0∧∃ y',Did H b ds so l st ar i hi (l[i].D.write n B) H' y'):=by
 have hT4:Turns Z H ((((H.add (.rows false 1 [[.ptr (some ⟨b,0⟩)]])).add (.rows false 1 [[.int .i64 (i:Int)]])).add (.rows false 1 [[.int .i64 n]])).add (.rows false 64 [[.blk B]])):=((((Turns.refl Z H).addm _).addm _).addm _).addm _
 have g0:((((H.add (.rows false 1 [[.ptr (some ⟨b,0⟩)]])).add (.rows false 1 [[.int .i64 (i:Int)]])).add (.rows false 1 [[.int .i64 n]])).add (.rows false 64 [[.blk B]])).get (.run H.next)=some (.rows false 1 [[.ptr (some ⟨b,0⟩)]]):=by
  rw[Heap.get_add,if_neg (by simp<;>omega),Heap.get_add,if_neg (by simp<;>omega),Heap.get_add,if_neg (by simp<;>omega),Heap.get_add,if_pos rfl]
 have g1:((((H.add (.rows false 1 [[.ptr (some ⟨b,0⟩)]])).add (.rows false 1 [[.int .i64 (i:Int)]])).add (.rows false 1 [[.int .i64 n]])).add (.rows false 64 [[.blk B]])).get (.run (H.next+1))=some (.rows false 1 [[.int .i64 (i:Int)]]):=by
  rw[Heap.get_add,if_neg (by simp<;>omega),Heap.get_add,if_neg (by simp<;>omega),Heap.get_add,if_pos (by simp)]
 have g2:((((H.add (.rows false 1 [[.ptr (some ⟨b,0⟩)]])).add (.rows false 1 [[.int .i64 (i:Int)]])).add (.rows false 1 [[.int .i64 n]])).add (.rows false 64 [[.blk B]])).get (.run (H.next+1+1))=some (.rows false 1 [[.int .i64 n]]):=by
  rw[Heap.get_add,if_neg (by simp<;>omega),Heap.get_add,if_pos (by simp)]
 have g3:((((H.add (.rows false 1 [[.ptr (some ⟨b,0⟩)]])).add (.rows false 1 [[.int .i64 (i:Int)]])).add (.rows false 1 [[.int .i64 n]])).add (.rows false 64 [[.blk B]])).get (.run (H.next+1+1+1))=some (.rows false 64 [[.blk B]]):=by
  rw[Heap.get_add,if_pos (by simp)]
 have n4:((((H.add (.rows false 1 [[.ptr (some ⟨b,0⟩)]])).add (.rows false 1 [[.int .i64 (i:Int)]])).add (.rows false 1 [[.int .i64 n]])).add (.rows false 64 [[.blk B]])).next=H.next+4:=rfl
 generalize hH4:((((H.add (.rows false 1 [[.ptr (some ⟨b,0⟩)]])).add (.rows false 1 [[.int .i64 (i:Int)]])).add (.rows false 1 [[.int .i64 n]])).add (.rows false 64 [[.blk B]]))=H4 at hT4 g0 g1 g2 g3 n4
 have h4:=h.turns hT4
 have o0:H4.Old (.run H.next):=by show _ < _;omega
 have o1:H4.Old (.run (H.next+1)):=by show _ < _;omega
 have o2:H4.Old (.run (H.next+1+1)):=by show _ < _;omega
 have o3:H4.Old (.run (H.next+1+1+1)):=by show _ < _;omega
 have d0:=load1_of g0 rfl
 have d1:=load1_of g1 rfl
 have d2:=load1_of g2 rfl
 obtain⟨v1,K1,e1,rfl,t1⟩:=bread h4 hi rfl n hS hlf hmax (m+1)
 rw[hc] at e1
 change callS Tryz.prog S0 lf (m+5) 30 [.ptr (some ⟨b,0⟩),.int .i64 (i:Int),.int .i64 n] H4=_ at e1
 generalize l[i].D.read n=X at e1
 have t5:=t1.trans (cell_turns K1 X)
 have h5:=h4.turns t5
 have d0':=load1_of ((t5.same _ o0 id).trans g0) rfl
 have hT5:=hT4.trans t5
 by_cases h1:ar=1
 ·subst h1
  have e2:=bstep_cut h5 (.func (.func 32) [] [.ptr (some ⟨.run H.next,0⟩),.ptr (some ⟨.run (H.next+1),0⟩),.ptr (some ⟨.run (H.next+1+1),0⟩),.ptr (some ⟨.run (H.next+1+1+1),0⟩)]) lf (m+4)
  change callS Tryz.prog S0 lf (m+5) 31 _ _=_ at e2
  refine ret_call rfl c8_eq ?_
  simp only[c8,sy,tup,↓reduceIte,zA,zG,zC,zD,zF,zE,zB,zH,reduceCtorEq]
  rw[hH4]
  simp only[d0,d1,d2,e1,cell_fold,d0',e2,mkfnF,sy,tup,↓reduceIte,zA,zG,zC,zD,zF,zE,zB,zH,reduceCtorEq]
  exact⟨trivial,.inr trivial,_,rfl,.inl ⟨trivial,rfl,BenchAt.put h5 st 1 true,Turns.setm (X:=fun c=>c=b) (b:=b) (hT5.wide (fun c hc=>hc.elim)) rfl _⟩⟩
 ·obtain⟨H6,h6,t6,hrun⟩:=bstep_go h5 h1 ha hs lf (m+4)
  have ne:∀ c,H4.Old c→¬ H.Old c→c≠b:=fun c _ hno e=>hno (by rw[e];exact h.old.1)
  have get6:∀ c o,H4.Old c→¬ H.Old c→H4.get c=some o→H6.get c=some o:=fun c o ho hno hg=>(t6.same c (ho.mono t5.next) (ne c ho hno)).trans ((t5.same c ho id).trans hg)
  obtain⟨v7,H7,e7,rfl,y',hN⟩:=wclos h6 hi hS hmax n B (get6 _ _ o0 (Heap.not_old (by omega)) g0) (get6 _ _ o1 (Heap.not_old (by omega)) g1) (get6 _ _ o2 (Heap.not_old (by omega)) g2) (get6 _ _ o3 (Heap.not_old (by omega)) g3) lf m
  rw[hc] at e7
  have e2:=hrun 32 [] [.ptr (some ⟨.run H.next,0⟩),.ptr (some ⟨.run (H.next+1),0⟩),.ptr (some ⟨.run (H.next+1+1),0⟩),.ptr (some ⟨.run (H.next+1+1+1),0⟩)] _ _ e7
  change callS Tryz.prog S0 lf (m+5) 31 _ _=_ at e2
  refine ret_call rfl c8_eq ?_
  simp only[c8,sy,tup,↓reduceIte,zA,zG,zC,zD,zF,zE,zB,zH,reduceCtorEq]
  rw[hH4]
  simp only[d0,d1,d2,e1,cell_fold,d0',e2,mkfnF,sy,tup,↓reduceIte,zA,zG,zC,zD,zF,zE,zB,zH,reduceCtorEq]
  exact⟨trivial,.inr trivial,_,rfl,.inr ⟨h1,rfl,y',did_of hT5 h6 t6 hN⟩⟩
end Go.Proofs.YtllkepkaimnodaaGreatDoor.disk
namespace Go.Proofs.YtllkepkaimnodaaGreatDoor.disk
open Go.Am
structure Wf (D:Dev) (n k:Nat):Prop where
 len:D.S.length=n
 pos:0 < n
 ok:∀ w ∈ D.L,w.1 < D.S.length
 le:D.L.length≤k
theorem Wf.ne {D:Dev} {n k:Nat} (h:Wf D n k):D.S≠[]:=fun e=>by
 have h1:=h.len
 have h2:=h.pos
 rw[e] at h1
 simp at h1
 omega
theorem Wf.write {D:Dev} {n k:Nat} (h:Wf D n k) (i:Int) (B:Nat):Wf (D.write i B) n (k+1):=by
 rcases code_cases D i with ⟨j,rfl,hj,hd,hc⟩ | hc | hc
 ·have e:D.write (j:Int) B={ D with L:=D.L++[(j,B)] }:=if_pos hc
  rw[e]
  refine⟨h.len,h.pos,fun w hw=>?_,by have:=h.le;simp;omega⟩
  rcases List.mem_append.1 hw with hw | hw
  ·exact h.ok w hw
  ·rw[List.mem_singleton.1 hw];exact hj
 ·have e:D.write i B=D:=if_neg (by rw[hc];decide)
  rw[e];exact⟨h.len,h.pos,h.ok,by have:=h.le;omega⟩
 ·have e:D.write i B=D:=if_neg (by rw[hc];decide)
  rw[e];exact⟨h.len,h.pos,h.ok,by have:=h.le;omega⟩
theorem Wf.flush {D:Dev} {n k:Nat} (h:Wf D n k):Wf D.flush n (k+1):=by
 unfold Dev.flush
 split
 ·exact⟨h.len,h.pos,h.ok,by have:=h.le;omega⟩
 ·exact⟨by rw[← h.len];exact flushS_length _ _,h.pos,fun w hw=>absurd hw (by simp),Nat.zero_le _⟩
theorem Wf.mono {D:Dev} {n k:Nat} (h:Wf D n k):Wf D n (k+1):=⟨h.len,h.pos,h.ok,by have:=h.le;omega⟩
end Go.Proofs.YtllkepkaimnodaaGreatDoor.disk
namespace Go.Proofs.YtllkepkaimnodaaGreatDoor.disk
open Go.Am
noncomputable def c40:CFn:=⟨[.tmp (pp 4)],
 .seq (.reg [
 qo 4 (.p (S.get (ii 0))) []]) (
 .seq (.seq (.reg [
 mv 5 0,
 mv 6 1,
 qo 7 (.c (callF (ff 102) [(tt 5),(tt 6)])) [pp 5,pp 6],
 qo 8 (.p (eqcF true false [.int .i64] (tt 7) (ii 0))) [pp 7]]) (
 .cond (tt 8) (.seq (.reg [
 qo 4 (.p (S.get (ii 0))) []]) (
 .ret)) (.skip))) (
 .seq (.reg [
 mv 9 0,
 qo 10 (.p (nilcF (tt 9))) [pp 9],
 qo 11 (.p (faddrF (tt 10) 0)) [pp 10],
 qo 12 (.r (loadF (tt 11) 1 .sc)) [pp 11],
 mv 13 1,
 qo 14 (.p (iaddrSF (tt 12) (tt 13) 1)) [pp 12,pp 13],
 qo 15 (.r (loadF (tt 14) 1 .sc)) [pp 14],
 qo 16 (.c (callF (ff 115) [(tt 15)])) [pp 15],
 mv 4 16]) (
 .ret)))⟩
theorem c40_eq:fnOf Tryz.prog 40=some c40:=by kernel_rfl
noncomputable def c100:CFn:=⟨[.tmp (pp 2)],
 .seq (.reg [
 qo 2 (.p (S.get (ii 0))) []]) (
 .seq (.seq (.reg [
 mv 3 0,
 qo 4 (.c (callF (ff 94) [(tt 3)])) [pp 3]]) (
 .cond (tt 4) (.seq (.reg [
 qo 2 (.p (S.get (ii 0))) []]) (
 .ret)) (.skip))) (
 .seq (.reg [
 mv 5 0,
 qo 6 (.p (nilcF (tt 5))) [pp 5],
 qo 7 (.p (faddrF (tt 6) 0)) [pp 6],
 qo 8 (.r (loadF (tt 7) 1 .sc)) [pp 7],
 qo 9 (.p (lenF (tt 8))) [pp 8],
 mv 2 9]) (
 .ret)))⟩
theorem c100_eq:fnOf Tryz.prog 100=some c100:=by kernel_rfl
structure Bn where
 l:List Dev
 st:Int
 ar:Int
 dk:Bool
def tcode (n:Nat) (d:Int):Int:=if 0≤d∧d < (n:Int) then 0 else 2
def Bn.dev (B:Bn) (d:Int):Dev:=B.l.getD d.toNat ⟨[],[],false⟩
def Bn.tc (B:Bn) (d:Int):Int:=tcode B.l.length d
def Bn.lc (B:Bn) (d:Int):Int:=if B.dk=true then 8 else B.tc d
def Bn.rc (B:Bn) (d n:Int):Int:=if B.lc d=0 then code (B.dev d) n else B.lc d
noncomputable def Bn.read (B:Bn) (d n:Int):Nat:=if B.lc d=0 then(B.dev d).read n else 0
def Bn.setd (B:Bn) (d:Int) (D:Dev):Bn:={ B with l:=B.l.set d.toNat D }
def Bn.step (B:Bn) (d:Int) (D:Dev):Bn:=if B.ar=1 then { B with dk:=true } else⟨B.l.set d.toNat D,B.st+1,arLess B.ar,B.dk⟩
def Bn.sc (B:Bn):Int:=if B.ar=1 then 8 else 0
def Bn.wc (B:Bn) (d n:Int):Int:=if B.rc d n=0 then B.sc else B.rc d n
def Bn.write (B:Bn) (d n:Int) (x:Nat):Bn:=if B.rc d n=0 then B.step d ((B.dev d).write n x) else B
def Bn.flush (B:Bn) (d:Int):Bn:=if B.rc d 0=0 then B.step d (B.dev d).flush else B
def Bn.dead (B:Bn) (d:Int):Bool:=if B.tc d=0 then(B.dev d).dead else false
def Bn.sectors (B:Bn) (d:Int):Int:=if B.tc d=0 then((B.dev d).S.length:Int) else 0
def blank (n:Nat):Dev:=⟨List.replicate n 0,[],false⟩
def Bn.ac (B:Bn) (n:Int):Int:=if B.dk=true then 8 else if n < 0 then 2 else 0
def Bn.sure (B:Bn) (d n:Int):Nat:=if B.tc d=0 then(B.dev d).sure n else 0
structure Good (D:Dev):Prop where
 ne:D.S≠[]
 ok:∀ w ∈ D.L,w.1 < D.S.length
 len:D.S.length≤512
 le:D.L.length≤900
def n1:Bool→Bn→V
 | false,B=>.int .i64 B.st
 | true,B=>.int .i64 B.ar
def n2:Bool→Bn→V
 | false,B=>.int .i64 B.ar
 | true,B=>.bool B.dk
def n3:Bool→Bn→V
 | false,B=>.bool B.dk
 | true,B=>.int .i64 B.st
structure Rep (r:Bool) (H:Heap) (b ds:Bk) (so:Nat) (l:List Dv) (B:Bn):Prop where
 row:DvsAt H b ds so l (n1 r B) (n2 r B) (n3 r B)
 map:l.map Dv.D=B.l
abbrev BRep:=Rep false
theorem Rep.at' {H:Heap} {b ds:Bk} {so:Nat} {l:List Dv} {B:Bn} (h:Rep false H b ds so l B):BenchAt H b ds so l B.st B.ar B.dk:=h.row
theorem Rep.turns {H H':Heap} {b ds:Bk} {so:Nat} {l:List Dv} {B:Bn} {r:Bool} (h:Rep r H b ds so l B) (k:Turns Z H H'):Rep r H' b ds so l B:=⟨h.row.turns k,h.map⟩
theorem Rep.len {H:Heap} {b ds:Bk} {so:Nat} {l:List Dv} {B:Bn} {r:Bool} (h:Rep r H b ds so l B):l.length=B.l.length:=by rw[← h.map,List.length_map]
theorem tcode_cases (n:Nat) (d:Int):(∃ i:Nat,i < n∧d=(i:Int)∧tcode n d=0)∨tcode n d=2:=by
 unfold tcode
 by_cases h:0≤d∧d < (n:Int)
 ·rw[if_pos h]
  exact .inl ⟨d.toNat,by omega,by omega,rfl⟩
 ·rw[if_neg h];exact .inr rfl
theorem Rep.has {H:Heap} {b ds:Bk} {so:Nat} {l:List Dv} {B:Bn} {r:Bool} (h:Rep r H b ds so l B) (d:Int):(∃ i:Nat,∃ hi:i < l.length,d=(i:Int)∧B.tc d=0∧B.dev d=l[i].D)∨B.tc d=2:=by
 rcases tcode_cases B.l.length d with ⟨i,hi,rfl,e⟩ | e
 ·have hi':i < l.length:=by rw[h.len];exact hi
  refine .inl ⟨i,hi',rfl,e,?_⟩
  unfold Bn.dev
  rw[← h.map]
  simp[List.getD,hi']
 ·exact .inr e
def BFoot (b ds:Bk) (l:List Dv) (c:Bk):Prop:=c=b∨c=ds∨∃ x ∈ l,x.foot c
structure RNext (r:Bool) (H:Heap) (b ds:Bk) (so:Nat) (l:List Dv) (H':Heap) (l':List Dv) (B':Bn):Prop where
 rep:Rep r H' b ds so l' B'
 turns:Turns (BFoot b ds l) H H'
 foot:∀ c,BFoot b ds l' c→BFoot b ds l c∨¬ H.Old c
abbrev BNext:=RNext false
theorem Rep.idle {H H':Heap} {b ds:Bk} {so:Nat} {l:List Dv} {B:Bn} {r:Bool} (h:Rep r H b ds so l B) (k:Turns Z H H'):RNext r H b ds so l H' l B:=
 ⟨h.turns k,k.wide (fun c hc=>hc.elim),fun c hc=>.inl hc⟩
theorem RNext.before {H0 H H':Heap} {b ds:Bk} {so:Nat} {l l':List Dv} {B':Bn} {r:Bool} (t:Turns Z H0 H) (k:RNext r H b ds so l H' l' B'):RNext r H0 b ds so l H' l' B':=
 ⟨k.rep,(t.wide (fun c hc=>hc.elim)).trans k.turns,fun c hc=>(k.foot c hc).imp id (fun h o=>h (o.mono t.next))⟩
theorem RNext.after {H H' H2:Heap} {b ds:Bk} {so:Nat} {l l':List Dv} {B':Bn} {r:Bool} (k:RNext r H b ds so l H' l' B') (t:Turns Z H' H2):RNext r H b ds so l H2 l' B':=
 ⟨k.rep.turns t,k.turns.trans (t.wide (fun c hc=>hc.elim)),k.foot⟩
theorem foot_set {b ds:Bk} {l:List Dv} {i:Nat} (hi:i < l.length) {x:Dv} {P:Bk→Prop} (hx:∀ c,x.foot c→l[i].foot c∨P c):∀ c,BFoot b ds (l.set i x) c→BFoot b ds l c∨P c:=by
 rintro c (h | h | ⟨z,hz,hc⟩)
 ·exact .inl (.inl h)
 ·exact .inl (.inr (.inl h))
 ·rcases List.mem_or_eq_of_mem_set hz with hz | rfl
  ·exact .inl (.inr (.inr ⟨z,hz,hc⟩))
  ·rcases hx c hc with h | h
   ·exact .inl (.inr (.inr ⟨_,List.getElem_mem hi,h⟩))
   ·exact .inr h
theorem map_set_D {l:List Dv} {B:List Dev} (h:l.map Dv.D=B) (i:Nat) (x:Dv):(l.set i x).map Dv.D=B.set i x.D:=by rw[List.map_set,h]
theorem Rep.dev {H H':Heap} {b ds:Bk} {so:Nat} {l:List Dv} {B:Bn} {r:Bool} (h:Rep r H b ds so l B) {i:Nat} (hi:i < l.length) {y':Lay} {D':Dev} (k:Next H l[i].b l[i].y l[i].D H' y' D'):RNext r H b ds so l H' (l.set i ⟨l[i].b,y',D'⟩) (B.setd (i:Int) D'):=by
 refine⟨⟨by cases r<;>exact h.row.step hi k,map_set_D h.map i _⟩,k.turns.wide (fun c hc=>.inr (.inr ⟨_,List.getElem_mem hi,hc⟩)),foot_set hi ?_⟩
 rintro c (rfl | rfl | ⟨hl,rfl⟩)
 ·exact .inl (.inl rfl)
 ·exact .inl (.inr (.inl k.s))
 ·rcases k.l hl with ⟨h1,h2⟩ | h1
  ·exact .inl (.inr (.inr ⟨h1,h2⟩))
  ·exact .inr h1
theorem Rep.did {H H':Heap} {b ds:Bk} {so:Nat} {l:List Dv} {B:Bn} (h:BRep H b ds so l B) (hdk:B.dk=false) (h1:B.ar≠1) {i:Nat} {hi:i < l.length} {y':Lay} {D':Dev} (k:Did H b ds so l B.st B.ar i hi D' H' y'):BNext H b ds so l H' (l.set i ⟨l[i].b,y',D'⟩) (B.step (i:Int) D'):=by
 have e:B.step (i:Int) D'=⟨B.l.set i D',B.st+1,arLess B.ar,false⟩:=by unfold Bn.step;rw[if_neg h1,hdk];rfl
 rw[e]
 refine⟨⟨k.at',map_set_D h.map i _⟩,k.turns.wide ?_,foot_set hi k.foot⟩
 rintro c (hc | hc)
 ·exact .inl hc
 ·exact .inr (.inr ⟨_,List.getElem_mem hi,hc⟩)
theorem Rep.cut {H H':Heap} {b ds:Bk} {so:Nat} {l:List Dv} {B:Bn} (h:BRep H b ds so l B) (h1:B.ar=1) (D':Dev) (d:Int) (k:BenchAt H' b ds so l B.st 1 true) (t:Turns (fun c=>c=b) H H'):BNext H b ds so l H' l (B.step d D'):=by
 have e:B.step d D'=⟨B.l,B.st,1,true⟩:=by unfold Bn.step;rw[if_pos h1,h1]
 rw[e]
 exact⟨⟨k,h.map⟩,t.wide (fun c hc=>.inl hc),fun c hc=>.inl hc⟩
theorem Rep.place {H H1:Heap} {b ds:Bk} {so:Nat} {l:List Dv} {B:Bn} {r:Bool} (h:Rep r H b ds so l B) {i:Nat} (hi:i < l.length) (t:Turns Z H H1) {c:Bk} {y:Lay} {D:Dev} (hD:DevAt H1 c y D) (hF:Fresh H c y D) :
  storeAt H1 ⟨ds,i⟩ [.ptr (some ⟨c,0⟩)]=some (H1.set ds (.rows false 1 ((l.set i ⟨c,y,D⟩).map fun x=>[.ptr (some ⟨x.b,0⟩)])))∧RNext r H b ds so l (H1.set ds (.rows false 1 ((l.set i ⟨c,y,D⟩).map fun x=>[.ptr (some ⟨x.b,0⟩)]))) (l.set i ⟨c,y,D⟩) (B.setd (i:Int) D):=by
 have A:=h.row
 have A1:=A.turns t
 have st:storeAt H1 ⟨ds,i⟩ [.ptr (some ⟨c,0⟩)]=some (H1.set ds (.rows false 1 ((l.set i ⟨c,y,D⟩).map fun x=>[.ptr (some ⟨x.b,0⟩)]))):=by
  rw[storeAt_eq A1.ptrs (r:=[.ptr (some ⟨l[i].b,0⟩)]) (r':=[.ptr (some ⟨c,0⟩)]) (nth_of (by rw[Nat.div_one];simp[hi])) (by rw[Nat.mod_one];rfl),Nat.div_one,List.map_set]
 have nf:=hF.foot
 have hc:¬ Foot c y D ds:=fun e=>nf ds e A.old.2
 have hcb:¬ Foot c y D b:=fun e=>nf b e A.old.1
 have hk:Turns (fun x=>x=ds) H1 (H1.set ds (.rows false 1 ((l.set i ⟨c,y,D⟩).map fun x=>[.ptr (some ⟨x.b,0⟩)]))):=Turns.set (X:=fun x=>x=ds) rfl _ _
 refine⟨st,⟨⟨⟨?_,?_,fun j hj=>?_,fun p q hp hq hpq=>?_,?_,A.ne,fun j hj=>?_⟩,map_set_D h.map i _⟩,(t.wide (fun c hc=>hc.elim)).trans (hk.wide fun x hx=>.inr (.inl hx)),foot_set hi (fun x hx=>.inr (nf x hx))⟩⟩
 ·rw[List.length_set];cases r<;>exact(hk.same b A1.old.1 A.ne).trans A1.own
 ·rw[Heap.get_set,if_pos rfl]
 ·have hj':j < l.length:=by simpa using hj
  by_cases e:i=j
  ·subst e
   rw[List.getElem_set_self]
   exact hD.turns hk (fun e=>hc (.inl e.symm)) (fun e=>hc (.inr (.inl e.symm))) (fun hl e=>hc (.inr (.inr ⟨hl,e.symm⟩)))
  ·rw[List.getElem_set_ne e]
   have o:=(A.out j hj').2
   exact(A1.dev j hj').turns hk (fun e=>o (.inl e.symm)) (fun e=>o (.inr (.inl e.symm))) (fun hl e=>o (.inr (.inr ⟨hl,e.symm⟩)))
 ·have hp':p < l.length:=by simpa using hp
  have hq':q < l.length:=by simpa using hq
  by_cases e1:i=p
  ·subst e1
   rw[List.getElem_set_self,List.getElem_set_ne hpq]
   exact(sep_fresh (A.dev q hq') hF).symm
  ·by_cases e2:i=q
   ·subst e2
    rw[List.getElem_set_self,List.getElem_set_ne e1]
    exact sep_fresh (A.dev p hp') hF
   ·rw[List.getElem_set_ne e1,List.getElem_set_ne e2]
    exact A.sep p q hp' hq' hpq
 ·simp only[Heap.old_set];exact A1.old
 ·have hj':j < l.length:=by simpa using hj
  by_cases e:i=j
  ·subst e
   rw[List.getElem_set_self]
   exact⟨hcb,hc⟩
  ·rw[List.getElem_set_ne e]
   exact A.out j hj'
section
variable {H:Heap} {b ds:Bk} {so:Nat} {l:List Dv} {B:Bn} (h:BRep H b ds so l B) (hl:l≠[])
include h hl
theorem bhas_no {d:Int} (hd:B.tc d=2) (lf m:Nat):callS Tryz.prog S0 lf (m+1) 164 [.ptr (some ⟨b,0⟩),.int .i64 d] H=some (.v (.bool false),H):=by
 have l0:=bload0 h.at'
 have hn:¬ (0≤d∧d < (l.length:Int)):=fun e=>by
  unfold Bn.tc tcode at hd;rw[← h.len,if_pos e] at hd;cases hd
 obtain⟨v,H',e,rfl,rfl⟩:ret (callS Tryz.prog S0 lf (m+1) 164 [.ptr (some ⟨b,0⟩),.int .i64 d] H) fun v H'=>v=.bool false∧H'=H:=by
  refine ret_call rfl c164_eq ?_
  by_cases g0:0≤d
  ·have g1:¬ (d < (l.length:Int)):=fun e=>hn ⟨g0,e⟩
   simp only[c164,l0,g0,g1,sy,tup,↓reduceIte,zA,zG,zC,zD,zF,zE,zB,zH,reduceCtorEq]
   simp
  ·simp only[c164,l0,g0,sy,tup,↓reduceIte,zA,zG,zC,zD,zF,zE,zB,zH,reduceCtorEq]
   simp
 exact e
theorem bthere_all (d:Int) (lf m:Nat):callS Tryz.prog S0 lf (m+2) 102 [.ptr (some ⟨b,0⟩),.int .i64 d] H=some (.v (.int .i64 (B.tc d)),H):=by
 rcases h.has d with ⟨i,hi,rfl,e,_⟩ | e
 ·rw[e];exact bthere h.at' hi lf m
 ·rw[e]
  have e1:=bnone h.at' hl lf m
  have e2:=bhas_no h hl e lf m
  obtain⟨v,H',e,rfl,rfl⟩:ret (callS Tryz.prog S0 lf (m+2) 102 [.ptr (some ⟨b,0⟩),.int .i64 d] H) fun v H'=>v=.int .i64 2∧H'=H:=by
   refine ret_call rfl c102_eq ?_
   simp only[c102,e1,e2,sy,tup,↓reduceIte,zA,zG,zC,zD,zF,zE,zB,zH,reduceCtorEq]
   simp
  exact e
theorem blit_all (d:Int) (lf m:Nat):callS Tryz.prog S0 lf (m+3) 111 [.ptr (some ⟨b,0⟩),.int .i64 d] H=some (.v (.int .i64 (B.lc d)),H):=by
 cases hdk:B.dk with
 | true=>rw[show B.lc d=8 from if_pos hdk];exact blit_dark h.at' hl hdk d lf m
 | false=>
  have e0:B.lc d=B.tc d:=if_neg (by rw[hdk];decide)
  have e1:=bnone h.at' hl lf (m+1)
  have e2:=bthere_all h hl d lf m
  have l3:=bload3 h.at'
  rw[hdk] at l3
  change callS Tryz.prog S0 lf (m+2) 94 [.ptr (some ⟨b,0⟩)] H=_ at e1
  rw[e0]
  obtain⟨v,H',e,rfl,rfl⟩:ret (callS Tryz.prog S0 lf (m+3) 111 [.ptr (some ⟨b,0⟩),.int .i64 d] H) fun v H'=>v=.int .i64 (B.tc d)∧H'=H:=by
   refine ret_call rfl c111_eq ?_
   simp only[c111,e1,e2,l3,sy,tup,↓reduceIte,zA,zG,zC,zD,zF,zE,zB,zH,reduceCtorEq]
   simp
  exact e
variable (hg:∀ D ∈ B.l,Good D)
include hg
theorem good_at {i:Nat} (hi:i < l.length):Good l[i].D:=hg _ (by rw[← h.map];exact List.mem_map_of_mem (List.getElem_mem hi))
theorem bread_all (d n:Int) {lf:Nat} (hlf:1000 < lf) (m:Nat) :
  ret (callS Tryz.prog S0 lf (m+4) 30 [.ptr (some ⟨b,0⟩),.int .i64 d,.int .i64 n] H) fun v H'=>v=.tuple [.blk (B.read d n),.int .i64 (B.rc d n)]∧Turns Z H H':=by
 by_cases hc:B.lc d=0
 ·have hr:B.read d n=(B.dev d).read n:=if_pos hc
  have hrc:B.rc d n=code (B.dev d) n:=if_pos hc
  have hdk:B.dk=false:=by
   cases hdk:B.dk with
   | false=>rfl
   | true=>rw[show B.lc d=8 from if_pos hdk] at hc;cases hc
  have ht:B.tc d=0:=by rw[← hc];exact(if_neg (by rw[hdk];decide)).symm
  rcases h.has d with ⟨i,hi,rfl,_,e⟩ | e
  ·rw[hr,hrc,e]
   have g:=good_at h hl hg hi
   exact bread h.at' hi hdk n g.ne (by have:=g.le;omega) (by have:=g.le;omega) m
  ·rw[ht] at e;cases e
 ·have hr:B.read d n=0:=if_neg hc
  have hrc:B.rc d n=B.lc d:=if_neg hc
  have hz:(B.lc d==0)=false:=by simp;exact hc
  have t1:=Turns.add Z H (.rows false 64 [[.blk 0]])
  have e1:=blit_all (h.turns t1) hl d lf m
  rw[hr,hrc]
  refine ret_call rfl c30_eq ?_
  simp only[c30,e1,hz,sy,tup,↓reduceIte,zA,zG,zC,zD,zF,zE,zB,zH,reduceCtorEq]
  exact⟨trivial,.inr trivial,_,rfl,rfl,t1.setnew (Nat.le_refl _) _⟩
theorem bwrite_all (ha:0≤B.ar∧B.ar≤9223372036854775807) (hs:0≤B.st∧B.st≤100000) (d n:Int) (x:Nat) {lf:Nat} (hlf:1000 < lf) (m:Nat) :
  ret (callS Tryz.prog S0 lf (m+6) 8 [.ptr (some ⟨b,0⟩),.int .i64 d,.int .i64 n,.blk x] H) fun v H'=>v=.int .i64 (B.wc d n)∧∃ l',BNext H b ds so l H' l' (B.write d n x):=by
 by_cases hc:B.rc d n=0
 ·have hw:B.write d n x=B.step d ((B.dev d).write n x):=if_pos hc
  have hwc:B.wc d n=B.sc:=if_pos hc
  have hlc:B.lc d=0:=by
   by_cases e:B.lc d=0
   ·exact e
   ·rw[show B.rc d n=B.lc d from if_neg e] at hc;exact absurd hc e
  have hcc:code (B.dev d) n=0:=(if_pos hlc:B.rc d n=code (B.dev d) n).symm.trans hc
  have hdk:B.dk=false:=by
   cases hdk:B.dk with
   | false=>rfl
   | true=>rw[show B.lc d=8 from if_pos hdk] at hlc;cases hlc
  have ht:B.tc d=0:=by rw[← hlc];exact(if_neg (by rw[hdk];decide)).symm
  rcases h.has d with ⟨i,hi,rfl,_,e⟩ | e
  ·rw[hw,hwc,e]
   rw[e] at hcc
   have g:=good_at h hl hg hi
   have hA:=h.at'
   rw[hdk] at hA
   obtain⟨v,H',e1,hcase⟩:=bwrite hA ha hs hi n x (lf:=lf) g.ne (by have:=g.le;omega) (by have:=g.le;omega) hcc m
   rcases hcase with ⟨h1,rfl,hB,k⟩ | ⟨h1,rfl,y',k⟩
   ·exact⟨_,H',e1,by rw[show B.sc=8 from if_pos h1],l,h.cut h1 _ _ hB k⟩
   ·exact⟨_,H',e1,by rw[show B.sc=0 from if_neg h1],_,h.did hdk h1 k⟩
  ·rw[ht] at e;cases e
 ·have hw:B.write d n x=B:=if_neg hc
  have hwc:B.wc d n=B.rc d n:=if_neg hc
  rw[hw,hwc]
  have hT4:Turns Z H ((((H.add (.rows false 1 [[.ptr (some ⟨b,0⟩)]])).add (.rows false 1 [[.int .i64 d]])).add (.rows false 1 [[.int .i64 n]])).add (.rows false 64 [[.blk x]])):=((((Turns.refl Z H).addm _).addm _).addm _).addm _
  have g0:((((H.add (.rows false 1 [[.ptr (some ⟨b,0⟩)]])).add (.rows false 1 [[.int .i64 d]])).add (.rows false 1 [[.int .i64 n]])).add (.rows false 64 [[.blk x]])).get (.run H.next)=some (.rows false 1 [[.ptr (some ⟨b,0⟩)]]):=by
   rw[Heap.get_add,if_neg (by simp<;>omega),Heap.get_add,if_neg (by simp<;>omega),Heap.get_add,if_neg (by simp<;>omega),Heap.get_add,if_pos rfl]
  have g1:((((H.add (.rows false 1 [[.ptr (some ⟨b,0⟩)]])).add (.rows false 1 [[.int .i64 d]])).add (.rows false 1 [[.int .i64 n]])).add (.rows false 64 [[.blk x]])).get (.run (H.next+1))=some (.rows false 1 [[.int .i64 d]]):=by
   rw[Heap.get_add,if_neg (by simp<;>omega),Heap.get_add,if_neg (by simp<;>omega),Heap.get_add,if_pos (by simp)]
  have g2:((((H.add (.rows false 1 [[.ptr (some ⟨b,0⟩)]])).add (.rows false 1 [[.int .i64 d]])).add (.rows false 1 [[.int .i64 n]])).add (.rows false 64 [[.blk x]])).get (.run (H.next+1+1))=some (.rows false 1 [[.int .i64 n]]):=by
   rw[Heap.get_add,if_neg (by simp<;>omega),Heap.get_add,if_pos (by simp)]
  generalize hH4:((((H.add (.rows false 1 [[.ptr (some ⟨b,0⟩)]])).add (.rows false 1 [[.int .i64 d]])).add (.rows false 1 [[.int .i64 n]])).add (.rows false 64 [[.blk x]]))=H4 at hT4 g0 g1 g2
  have d0:=load1_of g0 rfl
  have d1:=load1_of g1 rfl
  have d2:=load1_of g2 rfl
  obtain⟨v1,K1,e1,rfl,t1⟩:=bread_all (h.turns hT4) hl hg d n hlf (m+1)
  change callS Tryz.prog S0 lf (m+5) 30 [.ptr (some ⟨b,0⟩),.int .i64 d,.int .i64 n] H4=_ at e1
  generalize B.read d n=X at e1
  have hz:(B.rc d n==0)=false:=by simp;exact hc
  generalize B.rc d n=z at e1 hz
  refine ret_call rfl c8_eq ?_
  simp only[c8,sy,tup,↓reduceIte,zA,zG,zC,zD,zF,zE,zB,zH,reduceCtorEq]
  rw[hH4]
  simp only[d0,d1,d2,e1,cell_fold,hz,sy,tup,↓reduceIte,zA,zG,zC,zD,zF,zE,zB,zH,reduceCtorEq]
  exact⟨trivial,.inr trivial,_,rfl,rfl,l,h.idle ((hT4.trans t1).trans (cell_turns K1 X))⟩
theorem bsectors_all (d:Int) (lf m:Nat) :
  callS Tryz.prog S0 lf (m+3) 40 [.ptr (some ⟨b,0⟩),.int .i64 d] H=some (.v (.int .i64 (B.sectors d)),H):=by
 have e1:=bthere_all h hl d lf m
 obtain⟨v,H',e,rfl,rfl⟩:ret (callS Tryz.prog S0 lf (m+3) 40 [.ptr (some ⟨b,0⟩),.int .i64 d] H) fun v H'=>v=.int .i64 (B.sectors d)∧H'=H:=by
  rcases h.has d with ⟨i,hi,rfl,e,eD⟩ | e
  ·have hw:B.sectors (i:Int)=(l[i].D.S.length:Int):=by rw[← eD];exact if_pos e
   rw[hw]
   rw[e] at e1
   have l0:=bload0 h.at'
   have lp:=bloadP h.at' hi
   have hi1:i+1≤l.length:=hi
   obtain⟨v,H',e2,rfl,rfl⟩:=sectors_ok (h.at'.dev i hi) (good_at h hl hg hi).ne lf m
   refine ret_call rfl c40_eq ?_
   simp only[c40,e1,l0,lp,hi1,e2,Nat.mul_one,sy,tup,↓reduceIte,zA,zG,zC,zD,zF,zE,zB,zH,reduceCtorEq]
   simp
  ·have hw:B.sectors d=0:=if_neg (by rw[e];decide)
   rw[hw]
   rw[e] at e1
   refine ret_call rfl c40_eq ?_
   simp only[c40,e1,sy,tup,↓reduceIte,zA,zG,zC,zD,zF,zE,zB,zH,reduceCtorEq]
   simp
 exact e
end
end Go.Proofs.YtllkepkaimnodaaGreatDoor.disk
