import Derived.Test.YtabebpemfinejaaDoorProg
import Derived.Test.YtabebpemfinejaaDoorAmTac
import Derived.Test.YtabebpemfinejaaDoorAmLaid
set_option linter.unusedVariables false
set_option linter.unusedSimpArgs false
set_option maxRecDepth 10000
open Nat renaming reduceEqDiff → zA, reduceLeDiff → zB, reduceSub → zC, reduceMul → zD, reduceMod → zE, reduceDiv → zF, reduceAdd → zG
open Int renaming reduceBEq → zH
namespace Go.Proofs.YtabebpemfinejaaDoor.crc
open Go.Am
noncomputable def c84:CFn:=⟨[.tmp (pp 4)],
 .seq (.reg [
 qo 4 (.p (S.get (.c (.int .u32 0)))) []]) (
 .seq (.reg [
 qo 6 (.c (callF (ff 91) [])) [],
 qo 5 (.m (allocF 16 [.int .u32 0,.int .u32 0,.int .u32 0,.int .u32 0,.int .u32 0,.int .u32 0,.int .u32 0,.int .u32 0,.int .u32 0,.int .u32 0,.int .u32 0,.int .u32 0,.int .u32 0,.int .u32 0,.int .u32 0,.int .u32 0])) [],
 qn (.a (storeF (tt 5) (tt 6) 16)) [pp 5,pp 6]]) (
 .seq (.reg [
 mv 7 0,
 mv 8 1,
 qo 9 (.p (convF .u32 (tt 8))) [pp 8],
 qo 10 (.p (arF .xor (tt 7) (tt 9))) [pp 7,pp 9],
 mv 0 10]) (
 .seq (.reg [
 mv 11 0,
 qo 12 (.p (arF .shr (tt 11) (.c (.int .u64 4)))) [pp 11],
 mv 13 0,
 qo 14 (.p (arF .and (tt 13) (.c (.int .u32 15)))) [pp 13],
 qo 15 (.p (iaddrAF (tt 5) (tt 14) 16 1)) [pp 5,pp 14],
 qo 16 (.r (loadF (tt 15) 1 .sc)) [pp 15],
 qo 17 (.p (arF .xor (tt 12) (tt 16))) [pp 12,pp 16],
 mv 0 17]) (
 .seq (.reg [
 mv 18 0,
 qo 19 (.p (arF .shr (tt 18) (.c (.int .u64 4)))) [pp 18],
 mv 20 0,
 qo 21 (.p (arF .and (tt 20) (.c (.int .u32 15)))) [pp 20],
 qo 22 (.p (iaddrAF (tt 5) (tt 21) 16 1)) [pp 5,pp 21],
 qo 23 (.r (loadF (tt 22) 1 .sc)) [pp 22],
 qo 24 (.p (arF .xor (tt 19) (tt 23))) [pp 19,pp 23],
 mv 4 24]) (
 .ret)))))⟩
theorem c84_eq:fnOf Tryd.prog 84=some c84:=by kernel_rfl
def tabN:List Nat:=[0,274646895,549293790,820201905,1098587580,1361435347,1640403810,1905808397,2197175160,2460548119,2722870694,2987750089,3280807620,3553878443,3811616794,4084100981]
def tab:List V:=[.int .u32 0,.int .u32 274646895,.int .u32 549293790,.int .u32 820201905,.int .u32 1098587580,.int .u32 1361435347,.int .u32 1640403810,.int .u32 1905808397,.int .u32 2197175160,.int .u32 2460548119,.int .u32 2722870694,.int .u32 2987750089,.int .u32 3280807620,.int .u32 3553878443,.int .u32 3811616794,.int .u32 4084100981]
noncomputable def at' (i:Nat):Nat:=match nth tabN i with
 | some x=>x
 | none=>0
noncomputable def hi (a:Nat):Nat:=Nat.div a 16
noncomputable def lo (a:Nat):Nat:=Nat.land a 15
noncomputable def xo (a b:Nat):Nat:=Nat.xor a b
noncomputable def half (a:Nat):Nat:=xo (hi a) (at' (lo a))
noncomputable def takeN (r c:Nat):Nat:=half (half (xo r c))
theorem cut_tab:∀ i,i < 16→cut tab i 1=some [.int .u32 ((at' i:Nat):Int)]
 | 0,_=>rfl | 1,_=>rfl | 2,_=>rfl | 3,_=>rfl | 4,_=>rfl | 5,_=>rfl | 6,_=>rfl | 7,_=>rfl
 | 8,_=>rfl | 9,_=>rfl | 10,_=>rfl | 11,_=>rfl | 12,_=>rfl | 13,_=>rfl | 14,_=>rfl | 15,_=>rfl
 | n+16,h=>absurd h (by omega)
theorem at_lt:∀ i,i < 16→at' i < 4294967296
 | 0,_=>by decide | 1,_=>by decide | 2,_=>by decide | 3,_=>by decide | 4,_=>by decide | 5,_=>by decide | 6,_=>by decide | 7,_=>by decide
 | 8,_=>by decide | 9,_=>by decide | 10,_=>by decide | 11,_=>by decide | 12,_=>by decide | 13,_=>by decide | 14,_=>by decide | 15,_=>by decide
 | n+16,h=>absurd h (by omega)
theorem land_lt (a:Nat):lo a < 16:=by
 have:a&&&15≤15:=Nat.and_le_right
 exact Nat.lt_of_le_of_lt this (by decide)
theorem xor_lt {a b:Nat} (h:a < 4294967296) (k:b < 4294967296):xo a b < 4294967296:=Nat.xor_lt_two_pow (n:=32) h k
theorem half_lt {a:Nat} (h:a < 4294967296):half a < 4294967296:=xor_lt (Nat.lt_of_le_of_lt (Nat.div_le_self _ _) h) (at_lt _ (land_lt a))
theorem u32_wrap {n:Nat} (h:n < 4294967296):IntKind.u32.wrap (n:Int)=n:=by
 show (if false&&decide ((n:Int) % (2 ^ 32:Int)≥(2 ^ (32 - 1):Int)) then(n:Int) % (2 ^ 32:Int) - (2 ^ 32:Int) else(n:Int) % (2 ^ 32:Int))=n
 rw[show (2 ^ 32:Int)=4294967296 from rfl]
 simp only[Bool.false_and,Bool.false_eq_true,if_false]
 omega
theorem fits_u32 {n:Nat} (h:n < 4294967296):fitsK .u32 n=true:=by
 show Nat.ble n 4294967295=true
 rw[ble_iff];omega
theorem xor_u32 {a b:Nat} (h:a < 4294967296) (k:b < 4294967296):arith .xor (.int .u32 (a:Int)) (.int .u32 (b:Int))=some (.int .u32 ((xo a b:Nat):Int)):=by
 have e:bitI Nat.xor (fun _ a b=>a ^^^ b) .u32 (a:Int) (b:Int)=((xo a b:Nat):Int):=by
  show (match fitsK .u32 a&&fitsK .u32 b with | true=>Int.ofNat (Nat.xor a b) | false=>_)=_
  rw[fits_u32 h,fits_u32 k];rfl
 show (match decide (IntKind.u32=IntKind.u32) with | false=>none | true=>mkI .u32 (bitI Nat.xor (fun _ a b=>a ^^^ b) .u32 (a:Int) (b:Int)))=_
 rw[e,C4,u32_wrap (xor_lt h k)];rfl
theorem and_u32 {a:Nat} (h:a < 4294967296):arith .and (.int .u32 (a:Int)) (.int .u32 15)=some (.int .u32 ((lo a:Nat):Int)):=by
 have e:bitI Nat.land (fun _ a b=>a&&&b) .u32 (a:Int) 15=((lo a:Nat):Int):=by
  show (match fitsK .u32 a&&fitsK .u32 15 with | true=>Int.ofNat (Nat.land a 15) | false=>_)=_
  rw[fits_u32 h];rfl
 show (match decide (IntKind.u32=IntKind.u32) with | false=>none | true=>mkI .u32 (bitI Nat.land (fun _ a b=>a&&&b) .u32 (a:Int) 15))=_
 rw[e,C4,u32_wrap (Nat.lt_of_lt_of_le (land_lt a) (by decide))];rfl
theorem shr_u32 (a:Nat):arith .shr (.int .u32 (a:Int)) (.int .u64 4)=some (.int .u32 ((hi a:Nat):Int)):=rfl
def heapOf:Option (Rs × Heap)→Heap
 | some (_,H)=>H
 | none=>⟨.e,0,fun _=>none,[]⟩
noncomputable def H13:Heap:=heapOf (callS Tryd.prog noSum 10 2 91 [] (heapA Tryd.prog fun _=>none))
theorem e213:callS Tryd.prog noSum 10 2 91 [] (heapA Tryd.prog fun _=>none)=some (.v (.agg tab),H13):=by kernel_rfl
noncomputable def H14:Heap:=(H13.add (.rows false 16 [List.replicate 16 (.int .u32 0)])).set (.run H13.next) (.rows false 16 [tab])
theorem st14:storeAt (H13.add (.rows false 16 [List.replicate 16 (.int .u32 0)])) ⟨.run H13.next,0⟩ tab=some H14:=by
 have h:(H13.add (.rows false 16 [List.replicate 16 (.int .u32 0)])).get (.run H13.next)=some (.rows false 16 [List.replicate 16 (.int .u32 0)]):=by rw[Heap.get_add,if_pos rfl]
 exact storeAt_eq h (r:=List.replicate 16 (.int .u32 0)) rfl (by kernel_rfl)
theorem ld14 {i:Nat} (hi:i < 16):loadAt H14 ⟨.run H13.next,i⟩ 1=some [.int .u32 ((at' i:Nat):Int)]:=by
 have h:H14.get (.run H13.next)=some (.rows false 16 [tab]):=by unfold H14;rw[Heap.get_set,if_pos rfl]
 rw[loadAt_eq h (r:=tab) (by rw[Nat.div_eq_of_lt hi];rfl),Nat.mod_eq_of_lt hi]
 exact cut_tab i hi
theorem rep16:[V.int .u32 0,.int .u32 0,.int .u32 0,.int .u32 0,.int .u32 0,.int .u32 0,.int .u32 0,.int .u32 0,.int .u32 0,.int .u32 0,.int .u32 0,.int .u32 0,.int .u32 0,.int .u32 0,.int .u32 0,.int .u32 0]=List.replicate 16 (.int .u32 0):=rfl
theorem width_tab:width tab=16:=rfl
theorem take_run {r c:Nat} (hr:r < 4294967296) (hc:c < 256):ret (callS Tryd.prog noSum 10 3 84 [.int .u32 (r:Int),.int .u8 (c:Int)] (heapA Tryd.prog fun _=>none)) fun v H1=>v=.int .u32 ((takeN r c:Nat):Int)∧QOk H1:=by
 have hc':c < 4294967296:=by omega
 have h1:=xor_u32 hr hc'
 have hx:=xor_lt hr hc'
 have h2:=and_u32 hx
 have l2:=ld14 (land_lt (xo r c))
 have lt2:=land_lt (xo r c)
 have h3:=xor_u32 (Nat.lt_of_le_of_lt (Nat.div_le_self _ _) hx:hi (xo r c) < 4294967296) (at_lt _ lt2)
 have hy:=half_lt hx
 have h4:=and_u32 hy
 have l4:=ld14 (land_lt (half (xo r c)))
 have lt4:=land_lt (half (xo r c))
 have h5:=xor_u32 (Nat.lt_of_le_of_lt (Nat.div_le_self _ _) hy:hi (half (xo r c)) < 4294967296) (at_lt _ lt4)
 have hcw:=u32_wrap hc'
 change _=some (V.int .u32 ((half (xo r c):Nat):Int)) at h3
 change _=some (V.int .u32 ((takeN r c:Nat):Int)) at h5
 have hn2:lo (xo r c)+1≤16:=lt2
 have hn4:lo (half (xo r c))+1≤16:=lt4
 have hq:QOk H14:=by
  have:H14.q=[]:=by kernel_rfl
  intro p hp;rw[this] at hp;cases hp
 refine ret_call rfl c84_eq ?_
 simp only[c84,e213,st14,rep16,width_tab,h1,h2,l2,h3,h4,l4,h5,hcw,iaddrAF,shr_u32,hn2,hn4,Nat.mul_one,sy,tup,↓reduceIte,zA,zG,zC,zD,zF,zE,zB,zH,reduceCtorEq]
 simp[hq]
noncomputable def takeS:CallT:=fun id args H=>match Nat.beq id 84,args with
 | true,[.int .u32 (.ofNat r),.int .u8 (.ofNat c)]=>match Nat.ble r 4294967295&&Nat.ble c 255 with
  | true=>some (.v (.int .u32 (.ofNat (takeN r c))),H)
  | false=>none
 | _,_=>none
theorem takeS_calm:NoPan takeS:=by
 intro id args H v H' e
 unfold takeS at e
 split at e
 ·split at e<;>cases e
 ·cases e
theorem takeS_snd:CallSnd Tryd.prog takeS:=by
 refine CallSndV.calm (fun id args H v H' e=>?_) takeS_calm
 unfold takeS at e
 split at e
 ·rename_i r c hid
  have hid:=beq_iff.1 hid
  subst hid
  split at e
  ·rename_i hb
   simp only[Bool.and_eq_true,ble_iff] at hb
   cases e
   obtain⟨v,H1,e1,rfl,hq⟩:=take_run (r:=r) (c:=c) (by omega) (by omega)
   exact alone_snd (noSum_snd _) e1 hq rfl rfl H
  ·cases e
 ·cases e
end Go.Proofs.YtabebpemfinejaaDoor.crc
namespace Go.Proofs.YtabebpemfinejaaDoor.disk
open Go.Am
noncomputable def c69:CFn:=⟨[.tmp (pp 4)],
 .seq (.reg [
 qo 4 (.p (S.get (ii 0))) []]) (
 .seq (.block 0 (.seq (.reg [
 mv 6 0,
 qo 7 (.c (callF (ff 73) [(tt 6)])) [pp 6],
 mv 5 7]) (
 .cond (tt 5) (.seq (.reg [
 qo 4 (.p (S.get (ii 1))) []]) (
 .ret)) (.seq (.reg [
 mv 9 1,
 qo 10 (.p (arF .lss (tt 9) (ii 0))) [pp 9],
 mv 11 10,
 mg 12 1 11 false,
 mg 13 0 11 false,
 qg 14 (.p (nilcF (tt 13))) 11 false [pp 13],
 qg 15 (.p (faddrF (tt 14) 0)) 11 false [pp 14],
 qg 16 (.r (loadF (tt 15) 1 .sc)) 11 false [pp 15],
 qg 17 (.p (lenF (tt 16))) 11 false [pp 16],
 qg 18 (.p (arF .geq (tt 12) (tt 17))) 11 false [pp 12,pp 17],
 qo 19 (.p (pickF (tt 11) (.c (.bool true)) (tt 18))) [pp 11,pp 18],
 mv 8 19]) (
 .cond (tt 8) (.seq (.reg [
 qo 4 (.p (S.get (ii 2))) []]) (
 .ret)) (.seq (.reg [
 mv 21 0,
 qo 22 (.p (nilcF (tt 21))) [pp 21],
 qo 23 (.p (faddrF (tt 22) 2)) [pp 22],
 qo 24 (.r (loadF (tt 23) 1 .sc)) [pp 23],
 mv 20 24]) (
 .cond (tt 20) (.seq (.reg [
 qo 4 (.p (S.get (ii 9))) []]) (
 .ret)) (.skip)))))))) (
 .seq (.reg [
 qo 4 (.p (S.get (ii 0))) []]) (
 .ret)))⟩
theorem c69_eq:fnOf Tryd.prog 69=some c69:=by kernel_rfl
noncomputable def c73:CFn:=⟨[.tmp (pp 2)],
 .seq (.reg [
 qo 2 (.p (S.get (.c (.bool false)))) []]) (
 .seq (.reg [
 mv 3 0,
 qo 4 (.r (eqnF false .ptr (tt 3) (.c (.ptr none)))) [pp 3],
 mv 5 4,
 mg 6 0 5 false,
 qg 7 (.p (nilcF (tt 6))) 5 false [pp 6],
 qg 8 (.p (faddrF (tt 7) 0)) 5 false [pp 7],
 qg 9 (.r (loadF (tt 8) 1 .sc)) 5 false [pp 8],
 qg 10 (.p (lenF (tt 9))) 5 false [pp 9],
 qg 11 (.p (eqcF false false [.int .i64] (tt 10) (ii 0))) 5 false [pp 10],
 qo 12 (.p (pickF (tt 5) (.c (.bool true)) (tt 11))) [pp 5,pp 11],
 mv 2 12]) (
 .ret))⟩
theorem c73_eq:fnOf Tryd.prog 73=some c73:=by kernel_rfl
noncomputable def c71_l0:C:=.seq (.seq (.reg [
 mv 21 7,
 qo 22 (.p (arF .geq (tt 21) (ii 0))) [pp 21]]) (
 .cond (tt 22) (.skip) (.exit 0))) (
 .seq (.block 1 (.seq (.reg [
 mv 25 0,
 qo 26 (.p (nilcF (tt 25))) [pp 25],
 qo 27 (.p (faddrF (tt 26) 1)) [pp 26],
 qo 28 (.r (loadF (tt 27) 1 .sc)) [pp 27],
 mv 29 7,
 qo 30 (.p (iaddrSF (tt 28) (tt 29) 65)) [pp 28,pp 29],
 qo 31 (.p (faddrF (tt 30) 0)) [pp 30],
 qo 32 (.r (loadF (tt 31) 1 .sc)) [pp 31],
 mv 33 1,
 qo 34 (.p (eqcF false false [.int .i64] (tt 32) (tt 33))) [pp 32,pp 33]]) (
 .cond (tt 34) (.seq (.reg [
 mv 35 0,
 qo 36 (.p (nilcF (tt 35))) [pp 35],
 qo 37 (.p (faddrF (tt 36) 1)) [pp 36],
 qo 38 (.r (loadF (tt 37) 1 .sc)) [pp 37],
 mv 39 7,
 qo 40 (.p (iaddrSF (tt 38) (tt 39) 65)) [pp 38,pp 39],
 qo 41 (.p (faddrF (tt 40) 1)) [pp 40],
 qo 42 (.r (loadF (tt 41) 64 .bk)) [pp 41],
 qn (.a (storeF (tt 4) (tt 42) 64)) [pp 4,pp 42],
 qo 5 (.p (S.get (ii 0))) []]) (
 .ret)) (.skip)))) (
 .reg [
 mv 23 7,
 qo 24 (.p (arF .sub (tt 23) (ii 1))) [pp 23],
 mv 7 24]))
noncomputable def c71:CFn:=⟨[.cell (pp 4) 64 .bk,.tmp (pp 5)],
 .seq (.reg [
 qo 4 (.m (allocF 64 [.blk 0])) [],
 qo 5 (.p (S.get (ii 0))) []]) (
 .seq (.seq (.reg [
 mv 8 0,
 mv 9 1,
 qo 10 (.c (callF (ff 69) [(tt 8),(tt 9)])) [pp 8,pp 9],
 mv 6 10]) (
 .seq (.reg [
 mv 11 6,
 qo 12 (.p (eqcF true false [.int .i64] (tt 11) (ii 0))) [pp 11]]) (
 .cond (tt 12) (.seq (.reg [
 qo 13 (.p (buildF [.blk 0] .bk [])) [],
 mv 14 6,
 qn (.a (storeF (tt 4) (tt 13) 64)) [pp 4,pp 13],
 mv 5 14]) (
 .ret)) (.skip)))) (
 .seq (.seq (.reg [
 mv 15 0,
 qo 16 (.p (nilcF (tt 15))) [pp 15],
 qo 17 (.p (faddrF (tt 16) 1)) [pp 16],
 qo 18 (.r (loadF (tt 17) 1 .sc)) [pp 17],
 qo 19 (.p (lenF (tt 18))) [pp 18],
 qo 20 (.p (arF .sub (tt 19) (ii 1))) [pp 19],
 mv 7 20]) (
 .block 0 (.loop c71_l0))) (
 .seq (.reg [
 mv 43 0,
 qo 44 (.p (nilcF (tt 43))) [pp 43],
 qo 45 (.p (faddrF (tt 44) 0)) [pp 44],
 qo 46 (.r (loadF (tt 45) 1 .sc)) [pp 45],
 mv 47 1,
 qo 48 (.p (iaddrSF (tt 46) (tt 47) 64)) [pp 46,pp 47],
 qo 49 (.r (loadF (tt 48) 64 .bk)) [pp 48],
 qn (.a (storeF (tt 4) (tt 49) 64)) [pp 4,pp 49],
 qo 5 (.p (S.get (ii 0))) []]) (
 .ret))))⟩
theorem c71_eq:fnOf Tryd.prog 71=some c71:=by kernel_rfl
noncomputable def c83:CFn:=⟨[.tmp (pp 6)],
 .seq (.reg [
 qo 5 (.m (boxF 64 (tt 2))) [pp 2],
 qo 6 (.p (S.get (ii 0))) []]) (
 .seq (.reg [
 mv 8 0,
 mv 9 1,
 qo 10 (.c (callF (ff 69) [(tt 8),(tt 9)])) [pp 8,pp 9],
 mv 7 10]) (
 .seq (.seq (.reg [
 mv 11 7,
 qo 12 (.p (eqcF false false [.int .i64] (tt 11) (ii 0))) [pp 11]]) (
 .cond (tt 12) (.regD [
 mv 13 0,
 mv 14 0,
 qo 15 (.p (nilcF (tt 14))) [pp 14],
 qo 16 (.p (faddrF (tt 15) 1)) [pp 15],
 qo 17 (.r (loadF (tt 16) 1 .sc)) [pp 16],
 mv 18 1,
 qo 19 (.r (loadF (tt 5) 64 .bk)) [pp 5],
 qo 20 (.p (buildF [.int .i64 0,.blk 0] .ag [(0,1,(tt 18)),(1,64,(tt 19))])) [pp 18,pp 19],
 qo 21 (.m (bsliceF 1 65 [.int .i64 0,.blk 0] [(0,65,(tt 20))])) [pp 20],
 qo 22 (.a (appF 65 72 (tt 17) (tt 21))) [pp 17,pp 21],
 qo 23 (.p (nilcF (tt 13))) [pp 13],
 qo 24 (.p (faddrF (tt 23) 1)) [pp 23],
 qn (.a (storeF (tt 24) (tt 22) 1)) [pp 24,pp 22]] [0,0,2,6,14,0,0,96,224,510,1023,2047,4095]) (.skip))) (
 .seq (.reg [
 mv 25 7,
 mv 6 25]) (
 .ret))))⟩
theorem c83_eq:fnOf Tryd.prog 83=some c83:=by kernel_rfl
noncomputable def c86_l0:C:=.seq (.reg [
 qo 17 (.p (arF .lss (tt 16) (tt 15))) [pp 16,pp 15]]) (
 .seq (.cond (tt 17) (.skip) (.exit 0)) (
 .seq (.block 1 (.seq (.reg [
 qo 18 (.p (iaddrSF (tt 14) (tt 16) 65)) [pp 14,pp 16],
 qo 19 (.r (loadF (tt 18) 65 .ag)) [pp 18],
 qo 5 (.m (allocF 65 [.int .i64 0,.blk 0])) [],
 qn (.a (storeF (tt 5) (tt 19) 65)) [pp 5,pp 19]]) (
 .regD [
 mv 20 0,
 qo 21 (.p (nilcF (tt 20))) [pp 20],
 qo 22 (.p (faddrF (tt 21) 0)) [pp 21],
 qo 23 (.r (loadF (tt 22) 1 .sc)) [pp 22],
 qo 24 (.p (faddrF (tt 5) 0)) [pp 5],
 qo 25 (.r (loadF (tt 24) 1 .sc)) [pp 24],
 qo 26 (.p (faddrF (tt 5) 1)) [pp 5],
 qo 27 (.r (loadF (tt 26) 64 .bk)) [pp 26],
 qo 28 (.p (iaddrSF (tt 23) (tt 25) 64)) [pp 23,pp 25],
 qn (.a (storeF (tt 28) (tt 27) 64)) [pp 28,pp 27]] [0,1,3,7,0,16,0,64,255,511]))) (
 .reg [
 qo 29 (.p (arF .add (tt 16) (ii 1))) [pp 16],
 mv 16 29])))
noncomputable def c86:CFn:=⟨[.tmp (pp 2)],
 .seq (.reg [
 qo 2 (.p (S.get (ii 0))) []]) (
 .seq (.reg [
 mv 6 0,
 qo 7 (.c (callF (ff 69) [(tt 6),(ii 0)])) [pp 6],
 mv 3 7]) (
 .seq (.seq (.reg [
 mv 8 3,
 qo 9 (.p (eqcF true false [.int .i64] (tt 8) (ii 0))) [pp 8]]) (
 .cond (tt 9) (.seq (.reg [
 mv 10 3,
 mv 2 10]) (
 .ret)) (.skip))) (
 .seq (.seq (.reg [
 mv 11 0,
 qo 12 (.p (nilcF (tt 11))) [pp 11],
 qo 13 (.p (faddrF (tt 12) 1)) [pp 12],
 qo 14 (.r (loadF (tt 13) 1 .sc)) [pp 13],
 qo 15 (.p (lenF (tt 14))) [pp 14],
 qo 16 (.p (S.get (ii 0))) []]) (
 .block 0 (.loop c86_l0))) (
 .seq (.reg [
 mv 30 0,
 qo 31 (.p (nilcF (tt 30))) [pp 30],
 qo 32 (.p (faddrF (tt 31) 1)) [pp 31],
 qn (.a (storeF (tt 32) (.c (.slice none 0 0 0)) 1)) [pp 32]]) (
 .seq (.reg [
 qo 2 (.p (S.get (ii 0))) []]) (
 .ret))))))⟩
theorem c86_eq:fnOf Tryd.prog 86=some c86:=by kernel_rfl
noncomputable def c46_l0:C:=.seq (.reg [
 qo 28 (.p (arF .lss (tt 27) (tt 26))) [pp 27,pp 26]]) (
 .seq (.cond (tt 28) (.skip) (.exit 0)) (
 .seq (.block 1 (.seq (.reg [
 mv 29 27,
 qo 30 (.p (iaddrSF (tt 25) (tt 27) 65)) [pp 25,pp 27],
 qo 31 (.r (loadF (tt 30) 65 .ag)) [pp 30],
 qo 8 (.m (allocF 65 [.int .i64 0,.blk 0])) [],
 mv 7 29,
 qn (.a (storeF (tt 8) (tt 31) 65)) [pp 8,pp 31]]) (
 .seq (.reg [
 mv 32 1,
 mv 33 7,
 qo 34 (.p (iaddrSF (tt 32) (tt 33) 1)) [pp 32,pp 33],
 qo 35 (.r (loadF (tt 34) 1 .sc)) [pp 34],
 qo 36 (.p (foldF max2 [(tt 35),(ii 0)])) [pp 35],
 qo 37 (.p (foldF min2 [(tt 36),(ii 64)])) [pp 36],
 mv 9 37]) (
 .regD [
 mv 38 0,
 qo 39 (.p (nilcF (tt 38))) [pp 38],
 qo 40 (.p (faddrF (tt 39) 0)) [pp 39],
 qo 41 (.r (loadF (tt 40) 1 .sc)) [pp 40],
 qo 42 (.p (faddrF (tt 8) 0)) [pp 8],
 qo 43 (.r (loadF (tt 42) 1 .sc)) [pp 42],
 qo 44 (.p (iaddrSF (tt 41) (tt 43) 64)) [pp 41,pp 43],
 mv 45 9,
 qo 46 (.p (sliceAF 64 1 (tt 44) none (some (tt 45)) none)) [pp 44,pp 45],
 qo 47 (.p (faddrF (tt 8) 1)) [pp 8],
 mv 48 9,
 qo 49 (.p (sliceAF 64 1 (tt 47) none (some (tt 48)) none)) [pp 47,pp 48],
 qo 50 (.a (cpyF 1 (tt 46) (tt 49))) [pp 46,pp 49]] [0,1,3,7,0,16,63,0,255,0,0,1536,4095])))) (
 .reg [
 qo 51 (.p (arF .add (tt 27) (ii 1))) [pp 27],
 mv 27 51])))
noncomputable def c46:CFn:=⟨[.tmp (pp 4),.tmp (pp 5)],
 .seq (.reg [
 qo 4 (.p (S.get (ii 0))) [],
 qo 5 (.p (S.get (ii 0))) []]) (
 .seq (.seq (.reg [
 mv 10 0,
 qo 11 (.c (callF (ff 73) [(tt 10)])) [pp 10]]) (
 .cond (tt 11) (.seq (.reg [
 qo 4 (.p (S.get (ii 0))) [],
 qo 5 (.p (S.get (ii 1))) []]) (
 .ret)) (.skip))) (
 .seq (.reg [
 mv 12 0,
 qo 13 (.p (nilcF (tt 12))) [pp 12],
 qo 14 (.p (faddrF (tt 13) 1)) [pp 13],
 qo 15 (.r (loadF (tt 14) 1 .sc)) [pp 14],
 qo 16 (.p (lenF (tt 15))) [pp 15],
 mv 17 1,
 qo 18 (.p (lenF (tt 17))) [pp 17],
 qo 19 (.p (foldF min2 [(tt 16),(tt 18)])) [pp 16,pp 18],
 mv 6 19]) (
 .seq (.seq (.reg [
 mv 20 0,
 qo 21 (.p (nilcF (tt 20))) [pp 20],
 qo 22 (.p (faddrF (tt 21) 1)) [pp 21],
 qo 23 (.r (loadF (tt 22) 1 .sc)) [pp 22],
 mv 24 6,
 qo 25 (.p (sliceF 65 (tt 23) none (some (tt 24)) none)) [pp 23,pp 24],
 qo 26 (.p (lenF (tt 25))) [pp 25],
 qo 27 (.p (S.get (ii 0))) []]) (
 .block 0 (.loop c46_l0))) (
 .seq (.reg [
 mv 52 0,
 qo 53 (.p (nilcF (tt 52))) [pp 52],
 qo 54 (.p (faddrF (tt 53) 1)) [pp 53],
 qn (.a (storeF (tt 54) (.c (.slice none 0 0 0)) 1)) [pp 54]]) (
 .seq (.reg [
 mv 55 6,
 mv 4 55,
 qo 5 (.p (S.get (ii 0))) []]) (
 .ret))))))⟩
theorem c46_eq:fnOf Tryd.prog 46=some c46:=by kernel_rfl
noncomputable def c51:CFn:=⟨[.tmp (pp 2),.tmp (pp 3)],
 .seq (.reg [
 qo 2 (.p (S.get (.c (.ptr none)))) [],
 qo 3 (.p (S.get (ii 0))) []]) (
 .seq (.seq (.reg [
 mv 4 0,
 qo 5 (.p (arF .lss (tt 4) (ii 1))) [pp 4],
 mv 6 5,
 mg 7 0 6 false,
 qg 8 (.p (arF .gtr (tt 7) (ii 512))) 6 false [pp 7],
 qo 9 (.p (pickF (tt 6) (.c (.bool true)) (tt 8))) [pp 6,pp 8]]) (
 .cond (tt 9) (.seq (.reg [
 qo 2 (.p (S.get (.c (.ptr none)))) [],
 qo 3 (.p (S.get (ii 2))) []]) (
 .ret)) (.skip))) (
 .seq (.reg [
 mv 10 0,
 qo 11 (.m (mksliceF 64 64 [.blk 0] (tt 10) (tt 10))) [pp 10,pp 10],
 qo 12 (.p (buildF [.slice none 0 0 0,.slice none 0 0 0,.bool false] .ag [(0,1,(tt 11))])) [pp 11],
 qo 13 (.m (boxF 3 (tt 12))) [pp 12],
 mv 2 13,
 qo 3 (.p (S.get (ii 0))) []]) (
 .ret)))⟩
theorem c51_eq:fnOf Tryd.prog 51=some c51:=by kernel_rfl
def sureRows (S:List Nat):List (List V):=S.map fun x=>[.blk x]
def looseRows (L:List (Nat × Nat)):List (List V):=L.map fun w=>[.int .i64 (w.1:Int),.blk w.2]
structure Dev where
 S:List Nat
 L:List (Nat × Nat)
 dead:Bool
structure Lay where
 s:Bk
 so:Nat
 l:Bk
 p:Option Ptr
 o:Nat
structure DevAt (H:Heap) (b:Bk) (y:Lay) (D:Dev):Prop where
 own:H.get b=some (.rows false 3 [[.slice (some ⟨y.s,0⟩) D.S.length D.S.length y.so,.slice y.p D.L.length D.L.length y.o,.bool D.dead]])
 sure:H.get y.s=some (.rows false 64 (sureRows D.S))
 nil:D.L=[]→y.p=none∧y.o=0
 loose:D.L≠[]→y.p=some ⟨y.l,0⟩∧y.o=65∧H.get y.l=some (.rows false 65 (looseRows D.L))
 old:H.Old b∧H.Old y.s∧(D.L≠[]→H.Old y.l)
 ne:b≠y.s∧(D.L≠[]→b≠y.l∧y.s≠y.l)
theorem DevAt.turns {H H':Heap} {b:Bk} {y:Lay} {D:Dev} (h:DevAt H b y D) {X:Bk→Prop} (k:Turns X H H') (h1:¬ X b) (h2:¬ X y.s) (h3:D.L≠[]→¬ X y.l):DevAt H' b y D:=by
 obtain⟨o1,o2,o3⟩:=h.old
 exact⟨(k.same b o1 h1).trans h.own,(k.same y.s o2 h2).trans h.sure,h.nil,fun e=>⟨(h.loose e).1,(h.loose e).2.1,(k.same y.l (o3 e) (h3 e)).trans (h.loose e).2.2⟩,⟨o1.mono k.next,o2.mono k.next,fun e=>(o3 e).mono k.next⟩,h.ne⟩
section
variable {H:Heap} {b:Bk} {y:Lay} {D:Dev} (h:DevAt H b y D)
include h
theorem load0:loadAt H ⟨b,0⟩ 1=some [.slice (some ⟨y.s,0⟩) D.S.length D.S.length y.so]:=by
 rw[loadAt_eq h.own rfl];exact cut_hit _ _ rfl
theorem load1:loadAt H ⟨b,1⟩ 1=some [.slice y.p D.L.length D.L.length y.o]:=by
 rw[loadAt_eq h.own (by exact rfl),show 1 % 3=0+1 from rfl,cut_miss (n:=0) _ _ _ (by rfl)];exact cut_hit _ _ rfl
theorem load2:loadAt H ⟨b,2⟩ 1=some [.bool D.dead]:=by
 rw[loadAt_eq h.own (by exact rfl),show 2 % 3=1+1 from rfl,cut_miss (n:=0) _ _ _ (by rfl),show 1=0+1 from rfl,cut_miss (n:=0) _ _ _ (by rfl)];exact cut_hit _ _ rfl
theorem loadS {n:Nat} (hn:n < D.S.length):loadAt H ⟨y.s,n*64⟩ 64=some [.blk D.S[n]]:=by
 rw[loadAt_eq h.sure (r:=[.blk D.S[n]]) (nth_of (by simp[sureRows,hn])),Nat.mul_mod_left]
 exact Dj _ _
end
def Z:Bk→Prop:=fun _=>False
noncomputable abbrev S0:CallT:=orS (sumG 0 [8,2,8,8] 13) crc.takeS
theorem none_ret {H:Heap} {b:Bk} {y:Lay} {D:Dev} (h:DevAt H b y D) (hS:D.S≠[]) (lf m:Nat):ret (callS Tryd.prog S0 lf (m+1) 73 [.ptr (some ⟨b,0⟩)] H) fun v H'=>v=.bool false∧H'=H:=by
 have h0:=load0 h
 have hlen:D.S.length≠0:=by simpa using hS
 refine ret_call rfl c73_eq ?_
 simp only[c73,h0,sy,tup,↓reduceIte,zA,zG,zC,zD,zF,zE,zB,zH,reduceCtorEq]
 simp[hS]
theorem asked_ok {H:Heap} {b:Bk} {y:Lay} {D:Dev} (h:DevAt H b y D) {n:Nat} (hn:n < D.S.length) (hd:D.dead=false) (lf m:Nat):ret (callS Tryd.prog S0 lf (m+2) 69 [.ptr (some ⟨b,0⟩),.int .i64 (n:Int)] H) fun v H'=>v=.int .i64 0∧H'=H:=by
 have h0:=load0 h
 have h2:=load2 h
 have hS:D.S≠[]:=fun e=>by rw[e] at hn;simp at hn
 have hlt:¬ ((n:Int) < 0):=by omega
 have hge:¬ (D.S.length≤n):=by omega
 refine ret_call rfl c69_eq ?_
 obtain⟨v,H1,e,rfl,rfl⟩:=none_ret h hS lf m
 simp only[c69,e,h0,h2,hd,hlt,hge,sy,tup,↓reduceIte,zA,zG,zC,zD,zF,zE,zB,zH,reduceCtorEq]
 simp
def look:List (Nat × Nat)→Nat→Option Nat
 | [],_=>none
 | w::l,n=>match look l n with
  | some x=>some x
  | none=>if w.1=n then some w.2 else none
theorem look_none:∀ {l:List (Nat × Nat)} {n:Nat},(∀ w ∈ l,w.1≠n)→look l n=none
 | [],n,_=>rfl
 | w::l,n,h=>by
  unfold look
  rw[look_none (fun v hv=>h v (List.mem_cons_of_mem _ hv))]
  exact if_neg (h w (List.mem_cons_self ..))
theorem look_at:∀ {l:List (Nat × Nat)} {n k:Nat} (hk:k < l.length),l[k].1=n→(∀ j,(hj:j < l.length)→k < j→l[j].1≠n)→look l n=some l[k].2
 | w::l,n,0,hk,h1,h2=>by
  unfold look
  rw[look_none (fun v hv=>by
   obtain⟨j,hj,rfl⟩:=List.getElem_of_mem hv
   exact h2 (j+1) (by simpa using hj) (by omega))]
  exact if_pos h1
 | w::l,n,k+1,hk,h1,h2=>by
  unfold look
  rw[look_at (l:=l) (k:=k) (by simpa using hk) h1 (fun j hj hlt=>h2 (j+1) (by simpa using hj) (by omega))]
  rfl
noncomputable def readN (D:Dev) (n:Nat):Nat:=match look D.L n with
 | some x=>x
 | none=>D.S.getD n 0
section
variable {H:Heap} {b:Bk} {y:Lay} {D:Dev} (h:DevAt H b y D)
include h
theorem loadL1 {k:Nat} (hk:k < D.L.length):loadAt H ⟨y.l,k*65⟩ 1=some [.int .i64 (D.L[k].1:Int)]:=by
 have hne:D.L≠[]:=fun e=>by rw[e] at hk;simp at hk
 rw[loadAt_eq (h.loose hne).2.2 (r:=[.int .i64 (D.L[k].1:Int),.blk D.L[k].2]) (nth_of (by simp[looseRows,hk])),Nat.mul_mod_left]
 exact cut_hit _ _ rfl
theorem loadL2 {k:Nat} (hk:k < D.L.length):loadAt H ⟨y.l,k*65+1⟩ 64=some [.blk D.L[k].2]:=by
 have hne:D.L≠[]:=fun e=>by rw[e] at hk;simp at hk
 have e1:(k*65+1) / 65=k:=by omega
 have e2:(k*65+1) % 65=0+1:=by omega
 rw[loadAt_eq (h.loose hne).2.2 (r:=[.int .i64 (D.L[k].1:Int),.blk D.L[k].2]) (nth_of (by rw[e1];simp[looseRows,hk])),e2,cut_miss (n:=63) _ _ _ (by rfl)]
 exact Dj _ _
end
theorem read_ok {H:Heap} {b:Bk} {y:Lay} {D:Dev} (h:DevAt H b y D) {n:Nat} (hn:n < D.S.length) (hd:D.dead=false) {lf:Nat} (hlf:D.L.length+1 < lf) (hmax:D.L.length < 1000000) (m:Nat):ret (callS Tryd.prog S0 lf (m+3) 71 [.ptr (some ⟨b,0⟩),.int .i64 (n:Int)] H) fun v H'=>v=.tuple [.blk (readN D n),.int .i64 0]∧Turns Z H H':=by
 have t1:=Turns.add Z H (.rows false 64 [[.blk 0]])
 have h':=h.turns t1 id id (fun _=>id)
 have h0:=load0 h'
 have h1:=load1 h'
 have hs:=loadS h' hn
 have hn1:n+1≤D.S.length:=hn
 refine ret_call rfl c71_eq ?_
 obtain⟨v,H1,e,rfl,e1⟩:=asked_ok h' hn hd lf m
 subst e1
 have hloop:∀ t:T,t.getP (Tr.path 0)=some (.ptr (some ⟨b,0⟩))→t.getP (Tr.path 1)=some (.int .i64 (n:Int))→t.getP (Tr.path 4)=some (.ptr (some ⟨.run H.next,0⟩))→t.getP (Tr.path 7)=some (.int .i64 ((D.L.length:Int) - 1)) →
   wp (loopF (runC (callS Tryd.prog S0 lf (m+2)) lf c71_l0) lf ⟨t,H.add (.rows false 64 [[.blk 0]]),[]⟩) fun x s=>
    (x=.ex 0∧look D.L n=none∧s.H=H.add (.rows false 64 [[.blk 0]])∧s.d=[]∧s.t.getP (Tr.path 0)=some (.ptr (some ⟨b,0⟩))∧s.t.getP (Tr.path 1)=some (.int .i64 (n:Int))∧s.t.getP (Tr.path 4)=some (.ptr (some ⟨.run H.next,0⟩))) ∨
    (x=.ret∧∃ v,look D.L n=some v∧s.H=(H.add (.rows false 64 [[.blk 0]])).set (.run H.next) (.rows false 64 [[.blk v]])∧s.d=[]∧s.t.getP (Tr.path 4)=some (.ptr (some ⟨.run H.next,0⟩))∧s.t.getP (Tr.path 5)=some (.int .i64 0)):=by
  intro t q0 q1 q4 q7
  refine wp_loopF (fun k s=>k≤D.L.length∧s.H=H.add (.rows false 64 [[.blk 0]])∧s.d=[]∧s.t.getP (Tr.path 0)=some (.ptr (some ⟨b,0⟩))∧s.t.getP (Tr.path 1)=some (.int .i64 (n:Int))∧s.t.getP (Tr.path 4)=some (.ptr (some ⟨.run H.next,0⟩))∧s.t.getP (Tr.path 7)=some (.int .i64 ((k:Int) - 1))∧∀ j,(hj:j < D.L.length)→k≤j→D.L[j].1≠n) ?_ lf D.L.length _ ⟨Nat.le_refl _,rfl,rfl,q0,q1,q4,q7,fun j hj hk=>absurd hj (by omega)⟩ (by omega)
  rintro k ⟨t,HH,d⟩ ⟨hk,rfl,rfl,q0,q1,q4,q7,hall⟩
  dsimp only at q0 q1 q4 q7
  cases k with
  | zero=>
   have hg:¬ ((0:Int)≤((0:Nat):Int) - 1):=by decide
   have hl:look D.L n=none:=look_none (by intro w hw;obtain⟨j,hj,rfl⟩:=List.getElem_of_mem hw;exact hall j hj (by omega))
   simp only[c71_l0,q0,q1,q4,q7,hg,hl,sy,tup,↓reduceIte,zA,zG,zC,zD,zF,zE,zB,zH,reduceCtorEq]
   simp
  | succ k=>
   have hk':k < D.L.length:=hk
   have hp:=(h.loose (fun e=>by rw[e] at hk';simp at hk')).1
   have l1:=loadL1 h' hk'
   have l2:=loadL2 h' hk'
   have hg:((k+1:Nat):Int) - 1=(k:Int):=by omega
   rw[hg] at q7
   have hge:(0:Int)≤(k:Int):=by omega
   have hw:IntKind.i64.wrap ((k:Int) - 1)=(k:Int) - 1:=wrap_i64 (by omega)
   by_cases hx:D.L[k].1=n
   ·have hl:look D.L n=some D.L[k].2:=look_at hk' hx (fun j hj hlt=>hall j hj hlt)
    simp only[c71_l0,q0,q1,q4,q7,hge,h1,hp,l1,l2,hk,hx,hw,hl,sy,tup,↓reduceIte,zA,zG,zC,zD,zF,zE,zB,zH,reduceCtorEq]
    simp
   ·have hx':(((D.L[k].1:Nat):Int)==(n:Int))=false:=by simp;omega
    simp only[c71_l0,q0,q1,q4,q7,hge,h1,hp,l1,l2,hk,hx',hw,sy,tup,↓reduceIte,zA,zG,zC,zD,zF,zE,zB,zH,reduceCtorEq]
    refine⟨k,Nat.lt_succ_self k,by omega,trivial,trivial,trivial,trivial,trivial,rfl,fun j hj hkj=>?_⟩
    by_cases e:j=k
    ·subst e;exact hx
    ·exact hall j hj (by omega)
 have hw:IntKind.i64.wrap ((D.L.length:Int) - 1)=(D.L.length:Int) - 1:=wrap_i64 (by omega)
 simp only[c71,e,h0,h1,hs,hn1,hw,sy,tup,↓reduceIte,zA,zG,zC,zD,zF,zE,zB,zH,reduceCtorEq]
 refine wp_ctx (F:=fun r=>seqC _ _ _ (blockC _ r)) (hloop _ ?_ ?_ ?_ ?_) ?_
 ·simp only[sy,tup,↓reduceIte,zA,zG,zC,zD,zF,zE,zB,zH,reduceCtorEq]
 ·simp only[sy,tup,↓reduceIte,zA,zG,zC,zD,zF,zE,zB,zH,reduceCtorEq]
 ·simp only[sy,tup,↓reduceIte,zA,zG,zC,zD,zF,zE,zB,zH,reduceCtorEq]
 ·simp only[sy,tup,↓reduceIte,zA,zG,zC,zD,zF,zE,zB,zH,reduceCtorEq]
 rintro x ⟨t,HH,d⟩ (⟨rfl,hlk,rfl,rfl,q0,q1,q4⟩ | ⟨rfl,v,hlk,rfl,rfl,q4,q5⟩)
 ·dsimp only at q0 q1 q4
  simp only[c71,q0,q1,q4,h0,hs,hn1,sy,tup,↓reduceIte,zA,zG,zC,zD,zF,zE,zB,zH,reduceCtorEq]
  simp
  exact⟨by simp[readN,hlk,hn],t1.setnew (Nat.le_refl _) _⟩
 ·dsimp only at q4 q5
  simp only[q4,q5,sy,tup,↓reduceIte,zA,zG,zC,zD,zF,zE,zB,zH,reduceCtorEq]
  simp
  exact⟨by simp[readN,hlk],t1.setnew (Nat.le_refl _) _⟩
def Foot (b:Bk) (y:Lay) (D:Dev):Bk→Prop:=fun c=>c=b∨c=y.s∨(D.L≠[]∧c=y.l)
structure Next (H:Heap) (b:Bk) (y:Lay) (D:Dev) (H':Heap) (y':Lay) (D':Dev):Prop where
 dev:DevAt H' b y' D'
 turns:Turns (Foot b y D) H H'
 s:y'.s=y.s
 l:D'.L≠[]→(D.L≠[]∧y'.l=y.l)∨¬ H.Old y'.l
noncomputable def killed (H:Heap) (y:Lay) (D:Dev):Heap:=match D.L with
 | []=>H
 | _::_=>H.set y.l .dead
theorem app_dev {H:Heap} {b:Bk} {y:Lay} {D:Dev} (h:DevAt H b y D) (hmax:D.L.length < 1000000) {x:Bk} {n B:Nat} (hx:H.get x=some (.rows false 65 [[.int .i64 (n:Int),.blk B]])) :
  appendV 65 72 H (.slice y.p D.L.length D.L.length y.o) (.slice (some ⟨x,0⟩) 1 1 0)=some (.slice (some ⟨.run H.next,0⟩) (D.L.length+1) (D.L.length+1) 65,(killed H y D).add (.rows false 65 (looseRows (D.L++[(n,B)])))):=by
 have he:elems H x 65 1 0=some [[.int .i64 (n:Int),.blk B]]:=by
  simp only[elems]
  rw[loadAt_eq hx (r:=[.int .i64 (n:Int),.blk B]) rfl,Dk]
  rfl
 by_cases hL:D.L=[]
 ·obtain⟨hp,ho⟩:=h.nil hL
  rw[hp,ho]
  simp only[appendV,lenOf,nbeq,nble,firstE,he,killed,hL]
  simp[elems,looseRows]
 ·obtain⟨hp,ho,hg⟩:=h.loose hL
  rw[hp,ho]
  have hk:killed H y D=H.set y.l .dead:=by unfold killed;cases hD:D.L with
   | nil=>exact absurd hD hL
   | cons w l=>rfl
  have hlen:(looseRows D.L).length=D.L.length:=by simp[looseRows]
  simp only[appendV,lenOf,nbeq,nble,firstE,he,hg,hk]
  have e1:(D.L.length+1)*72≤1099511627776:=by omega
  have e2:D.L.length+1≤1099511627776:=by omega
  simp[Ca,B9,Cc,e1,e2,hlen,looseRows]
theorem killed_next (H:Heap) (y:Lay) (D:Dev):(killed H y D).next=H.next:=by unfold killed;cases D.L<;>rfl
theorem killed_get {H:Heap} {y:Lay} {D:Dev} {c:Bk} (hc:D.L≠[]→c≠y.l):(killed H y D).get c=H.get c:=by
 unfold killed
 cases hD:D.L with
 | nil=>rfl
 | cons w l=>exact(Heap.get_set ..).trans (if_neg (hc (by rw[hD];exact List.cons_ne_nil _ _)))
theorem killed_turns (H:Heap) (b:Bk) (y:Lay) (D:Dev):Turns (Foot b y D) H (killed H y D):=by
 unfold killed
 cases hD:D.L with
 | nil=>exact Turns.refl _ _
 | cons w l=>exact Turns.set (.inr (.inr ⟨by rw[hD];exact List.cons_ne_nil _ _,rfl⟩)) _ _
theorem put_own (a c d v:V) (ha:a.asBlk=none) (hc:c.asBlk=none) (hv:v.flat=true):put [a,c,d] 1 [v]=some [a,v,d]:=by
 rw[show 1=0+1 from rfl,put_miss _ _ _ _ _ ha,put_hit _ _ _ hc hv];rfl
theorem write_ok {H:Heap} {b:Bk} {y:Lay} {D:Dev} (h:DevAt H b y D) {n:Nat} (hn:n < D.S.length) (hd:D.dead=false) (hmax:D.L.length < 1000000) (B:Nat) (lf m:Nat) :
  ret (callS Tryd.prog S0 lf (m+3) 83 [.ptr (some ⟨b,0⟩),.int .i64 (n:Int),.blk B] H) fun v H'=>v=.int .i64 0∧∃ y',Next H b y D H' y' { D with L:=D.L++[(n,B)] }:=by
 have t1:=Turns.add Z H (.rows false 64 [[.blk B]])
 have h':=h.turns t1 id id (fun _=>id)
 have t2:=t1.addm (.rows false 65 [[.int .i64 (n:Int),.blk B]])
 have h'':=h.turns t2 id id (fun _=>id)
 have l1:=load1 h'
 have hx:((H.add (.rows false 64 [[.blk B]])).add (.rows false 65 [[.int .i64 (n:Int),.blk B]])).get (.run (H.next+1))=some (.rows false 65 [[.int .i64 (n:Int),.blk B]]):=by
  rw[Heap.get_add,if_pos (by simp)]
 have ha:=app_dev h'' hmax hx
 refine ret_call rfl c83_eq ?_
 obtain⟨v,H1,e,rfl,e1⟩:=asked_ok h' hn hd lf m
 subst e1
 have hst:storeAt ((killed ((H.add (.rows false 64 [[.blk B]])).add (.rows false 65 [[.int .i64 (n:Int),.blk B]])) y D).add (.rows false 65 (looseRows (D.L++[(n,B)])))) ⟨b,1⟩ [.slice (some ⟨.run (H.next+1+1),0⟩) (D.L.length+1) (D.L.length+1) 65]=some (((killed ((H.add (.rows false 64 [[.blk B]])).add (.rows false 65 [[.int .i64 (n:Int),.blk B]])) y D).add (.rows false 65 (looseRows (D.L++[(n,B)])))).set b (.rows false 3 [[.slice (some ⟨y.s,0⟩) D.S.length D.S.length y.so,.slice (some ⟨.run (H.next+1+1),0⟩) (D.L.length+1) (D.L.length+1) 65,.bool D.dead]])):=by
  have hg:((killed ((H.add (.rows false 64 [[.blk B]])).add (.rows false 65 [[.int .i64 (n:Int),.blk B]])) y D).add (.rows false 65 (looseRows (D.L++[(n,B)])))).get b=some (.rows false 3 [[.slice (some ⟨y.s,0⟩) D.S.length D.S.length y.so,.slice y.p D.L.length D.L.length y.o,.bool D.dead]]):=by
   rw[Heap.get_add,if_neg (fun e:b=_=>Heap.not_old (Nat.le_refl _) (by rw[← killed_next _ y D,← e];exact h''.old.1)),killed_get (fun hL=>(h.ne.2 hL).1),h''.own]
  exact storeAt_eq hg (r:=[.slice (some ⟨y.s,0⟩) D.S.length D.S.length y.so,.slice y.p D.L.length D.L.length y.o,.bool D.dead]) rfl (put_own _ _ _ _ rfl rfl rfl)
 simp only[c83,e,l1,ha,hst,sy,tup,↓reduceIte,zA,zG,zC,zD,zF,zE,zB,zH,reduceCtorEq]
 rw[endD_ok (by kernel_rfl) (by kernel_rfl)]
 simp only[sy,tup,↓reduceIte,zA,zG,zC,zD,zF,zE,zB,zH,reduceCtorEq]
 refine⟨trivial,.inr trivial,_,rfl,rfl,⟨y.s,y.so,.run (H.next+1+1),some ⟨.run (H.next+1+1),0⟩,65⟩,?_⟩
 have hn2:((H.add (.rows false 64 [[.blk B]])).add (.rows false 65 [[.int .i64 (n:Int),.blk B]])).next=H.next+1+1:=by simp
 have hnew:∀ c,H.Old c→c≠.run (H.next+1+1):=fun c hc e=>Heap.not_old (H:=H) (n:=H.next+1+1) (by omega) (e ▸ hc)
 obtain⟨o1,o2,o3⟩:=h.old
 refine⟨⟨?_,?_,fun hL=>absurd hL (by simp),fun _=>⟨rfl,rfl,?_⟩,⟨?_,?_,fun _=>?_⟩,h.ne.1,fun _=>⟨hnew _ o1,hnew _ o2⟩⟩,?_,rfl,fun _=>.inr (Heap.not_old (by omega))⟩
 ·rw[Heap.get_set,if_pos rfl];simp
 ·rw[Heap.get_set,if_neg (Ne.symm h.ne.1),Heap.get_add,killed_next,hn2,if_neg (hnew _ o2),killed_get (fun hL=>(h.ne.2 hL).2)]
  exact h''.sure
 ·rw[Heap.get_set,if_neg (fun e=>hnew _ o1 e.symm),Heap.get_add,killed_next,hn2,if_pos rfl]
 ·exact o1.mono (by simp[killed_next];omega)
 ·exact o2.mono (by simp[killed_next];omega)
 ·show _ < _
  simp[killed_next]
 ·exact(((t2.wide (fun c hc=>hc.elim)).trans (killed_turns _ b y D)).addm _).setm (.inl rfl) _
theorem DevAt.setS {H:Heap} {b:Bk} {y:Lay} {D:Dev} (h:DevAt H b y D) {S':List Nat} (hl:S'.length=D.S.length):DevAt (H.set y.s (.rows false 64 (sureRows S'))) b y { D with S:=S' }:=by
 refine⟨?_,?_,h.nil,fun e=>⟨(h.loose e).1,(h.loose e).2.1,?_⟩,?_,h.ne⟩
 ·rw[Heap.get_set,if_neg h.ne.1,h.own,hl]
 ·rw[Heap.get_set,if_pos rfl]
 ·rw[Heap.get_set,if_neg (Ne.symm (h.ne.2 e).2)];exact(h.loose e).2.2
 ·simpa using h.old
theorem DevAt.clear {H:Heap} {b:Bk} {y:Lay} {D:Dev} (h:DevAt H b y D) (dead:Bool):DevAt (H.set b (.rows false 3 [[.slice (some ⟨y.s,0⟩) D.S.length D.S.length y.so,.slice none 0 0 0,.bool dead]])) b { y with p:=none,o:=0 } { D with L:=[],dead:=dead }:=by
 refine⟨?_,?_,fun _=>⟨rfl,rfl⟩,fun e=>absurd rfl e,⟨?_,?_,fun e=>absurd rfl e⟩,h.ne.1,fun e=>absurd rfl e⟩
 ·rw[Heap.get_set,if_pos rfl];rfl
 ·rw[Heap.get_set,if_neg (Ne.symm h.ne.1)];exact h.sure
 ·simpa using h.old.1
 ·simpa using h.old.2.1
section
variable {H:Heap} {b:Bk} {y:Lay} {D:Dev} (h:DevAt H b y D)
include h
theorem loadLw {k:Nat} (hk:k < D.L.length):loadAt H ⟨y.l,k*65⟩ 65=some [.int .i64 (D.L[k].1:Int),.blk D.L[k].2]:=by
 have hne:D.L≠[]:=fun e=>by rw[e] at hk;simp at hk
 rw[loadAt_eq (h.loose hne).2.2 (r:=[.int .i64 (D.L[k].1:Int),.blk D.L[k].2]) (nth_of (by simp[looseRows,hk])),Nat.mul_mod_left]
 rfl
theorem storeS {n:Nat} (hn:n < D.S.length) (B:Nat):storeAt H ⟨y.s,n*64⟩ [.blk B]=some (H.set y.s (.rows false 64 (sureRows (D.S.set n B)))):=by
 rw[storeAt_eq h.sure (r:=[.blk D.S[n]]) (r':=[.blk B]) (nth_of (by simp[sureRows,hn])) (by rw[Nat.mul_mod_left];exact Di _ _ _)]
 simp[sureRows,List.map_set]
theorem storeNil:storeAt H ⟨b,1⟩ [.slice none 0 0 0]=some (H.set b (.rows false 3 [[.slice (some ⟨y.s,0⟩) D.S.length D.S.length y.so,.slice none 0 0 0,.bool D.dead]])):=
 storeAt_eq h.own (r:=[.slice (some ⟨y.s,0⟩) D.S.length D.S.length y.so,.slice y.p D.L.length D.L.length y.o,.bool D.dead]) rfl (put_own _ _ _ _ rfl rfl rfl)
end
def flushS (S:List Nat) (L:List (Nat × Nat)):List Nat:=L.foldl (fun S w=>S.set w.1 w.2) S
theorem flushS_length:∀(L:List (Nat × Nat)) (S:List Nat),(flushS S L).length=S.length
 | [],S=>rfl
 | w::L,S=>(flushS_length L (S.set w.1 w.2)).trans (by simp)
theorem flushS_take {L:List (Nat × Nat)} {i:Nat} (hi:i < L.length) (S:List Nat):flushS S (L.take (i+1))=(flushS S (L.take i)).set L[i].1 L[i].2:=by
 unfold flushS
 rw[List.take_succ_eq_append_getElem hi,List.foldl_append];rfl
theorem flush_ok {H:Heap} {b:Bk} {y:Lay} {D:Dev} (h:DevAt H b y D) (hS:D.S≠[]) (hd:D.dead=false) (hok:∀ w ∈ D.L,w.1 < D.S.length) (hmax:D.L.length < 1000000) {lf:Nat} (hlf:D.L.length+1 < lf) (m:Nat) :
  ret (callS Tryd.prog S0 lf (m+3) 86 [.ptr (some ⟨b,0⟩)] H) fun v H'=>v=.int .i64 0∧Next H b y D H' { y with p:=none,o:=0 } { D with S:=flushS D.S D.L,L:=[] }:=by
 have l1:=load1 h
 have hpos:0 < D.S.length:=by cases hc:D.S with
  | nil=>exact absurd hc hS
  | cons a l=>simp
 refine ret_call rfl c86_eq ?_
 obtain⟨v,H1,e,rfl,e1⟩:=asked_ok h (n:=0) hpos hd lf m
 subst e1
 change callS Tryd.prog S0 lf (m+2) 69 [.ptr (some ⟨b,0⟩),.int .i64 0] H1=_ at e
 have hloop:∀ t:T,t.getP (Tr.path 0)=some (.ptr (some ⟨b,0⟩))→t.getP (Tr.path 14)=some (.slice y.p D.L.length D.L.length y.o)→t.getP (Tr.path 15)=some (.int .i64 (D.L.length:Int))→t.getP (Tr.path 16)=some (.int .i64 0) →
   wp (loopF (runC (callS Tryd.prog S0 lf (m+2)) lf c86_l0) lf ⟨t,H1,[]⟩) fun x s=>
    x=.ex 0∧s.d=[]∧s.t.getP (Tr.path 0)=some (.ptr (some ⟨b,0⟩))∧DevAt s.H b y { D with S:=flushS D.S D.L }∧Turns (Foot b y D) H1 s.H:=by
  intro t q0 q14 q15 q16
  refine wp_loopF (fun k s=>∃ i,i+k=D.L.length∧s.d=[]∧s.t.getP (Tr.path 0)=some (.ptr (some ⟨b,0⟩))∧s.t.getP (Tr.path 14)=some (.slice y.p D.L.length D.L.length y.o)∧s.t.getP (Tr.path 15)=some (.int .i64 (D.L.length:Int))∧s.t.getP (Tr.path 16)=some (.int .i64 (i:Int))∧DevAt s.H b y { D with S:=flushS D.S (D.L.take i) }∧Turns (Foot b y D) H1 s.H) ?_ lf D.L.length _ ⟨0,by simp,rfl,q0,q14,q15,q16,h,Turns.refl _ _⟩ (by omega)
  rintro k ⟨t,HH,d⟩ ⟨i,hi,rfl,q0,q14,q15,q16,hD,hT⟩
  dsimp only at q0 q14 q15 q16 hD hT
  cases k with
  | zero=>
   have hi:i=D.L.length:=by omega
   subst hi
   rw[List.take_length] at hD
   have hg:¬ (D.L.length < D.L.length):=Nat.lt_irrefl _
   simp only[c86_l0,q0,q14,q15,q16,hg,sy,tup,↓reduceIte,zA,zG,zC,zD,zF,zE,zB,zH,reduceCtorEq]
   exact⟨trivial,trivial,trivial,hD,hT⟩
  | succ k=>
   have hi':i < D.L.length:=by omega
   have hi1:i+1≤D.L.length:=hi'
   have hp:=(h.loose (fun e=>by rw[e] at hi';simp at hi')).1
   have lw:=loadLw hD hi'
   have hK:=hD.turns ((Turns.add Z HH (.rows false 65 [[.int .i64 0,.blk 0]])).setnew (Nat.le_refl _) (.rows false 65 [[.int .i64 (D.L[i].1:Int),.blk D.L[i].2]])) id id (fun _=>id)
   have hn:D.L[i].1 < (flushS D.S (D.L.take i)).length:=by rw[flushS_length];exact hok _ (List.getElem_mem _)
   have hn1:D.L[i].1+1≤(flushS D.S (D.L.take i)).length:=hn
   have l0:=load0 hK
   have st:=storeS hK hn D.L[i].2
   have hw:IntKind.i64.wrap ((i:Int)+1)=((i+1:Nat):Int):=by rw[wrap_i64 (by omega)];rfl
   rw[hp] at q14
   simp only[c86_l0,q0,q14,q15,q16,hi',hi1,hn1,lw,l0,st,hw,sy,tup,↓reduceIte,zA,zG,zC,zD,zF,zE,zB,zH,reduceCtorEq]
   rw[endD_ok (by kernel_rfl) (by kernel_rfl)]
   simp only[q0,q14,q15,q16,hw,sy,tup,↓reduceIte,zA,zG,zC,zD,zF,zE,zB,zH,reduceCtorEq]
   refine⟨k,Nat.lt_succ_self k,i+1,by omega,trivial,trivial,by rw[hp],trivial,rfl,?_,((hT.addm _).setnew hT.next _).setm (.inr (.inl rfl)) _⟩
   rw[flushS_take hi']
   exact hK.setS (by simp)
 simp only[c86,e,l1,sy,tup,↓reduceIte,zA,zG,zC,zD,zF,zE,zB,zH,reduceCtorEq]
 refine wp_ctx (F:=fun r=>seqC _ _ _ (blockC _ r)) (hloop _ ?_ ?_ ?_ ?_) ?_
 ·simp only[sy,tup,↓reduceIte,zA,zG,zC,zD,zF,zE,zB,zH,reduceCtorEq]
 ·simp only[sy,tup,↓reduceIte,zA,zG,zC,zD,zF,zE,zB,zH,reduceCtorEq]
 ·simp only[sy,tup,↓reduceIte,zA,zG,zC,zD,zF,zE,zB,zH,reduceCtorEq]
 ·simp only[sy,tup,↓reduceIte,zA,zG,zC,zD,zF,zE,zB,zH,reduceCtorEq]
 rintro x ⟨t,HH,d⟩ ⟨rfl,rfl,q0,hD,hT⟩
 dsimp only at q0 hD hT
 have st:=storeNil hD
 simp only[q0,st,sy,tup,↓reduceIte,zA,zG,zC,zD,zF,zE,zB,zH,reduceCtorEq]
 exact⟨trivial,.inr trivial,_,rfl,rfl,hD.clear D.dead,hT.setm (.inl rfl) _,rfl,fun e=>absurd rfl e⟩
end Go.Proofs.YtabebpemfinejaaDoor.disk
namespace Go.Proofs.YtabebpemfinejaaDoor.disk
open Go.Am
theorem foldV_max (k k2:IntKind) (a b:Int):foldV max2 (.int k a) [.int k2 b]=some (.int k (max a b)):=by
 simp only[foldV,max2,ltI_eq]
 by_cases h:a < b
 ·simp[h];omega
 ·simp[h];omega
theorem foldV_min (k k2:IntKind) (a b:Int):foldV min2 (.int k a) [.int k2 b]=some (.int k (min a b)):=by
 simp only[foldV,min2,ltI_eq]
 by_cases h:b < a
 ·simp[h];omega
 ·simp[h];omega
def clampN (p:Int):Nat:=(min (max p 0) 64).toNat
theorem clamp_eq (p:Int):min (max p 0) 64=(clampN p:Int):=by
 unfold clampN
 rw[Int.toNat_of_nonneg (by omega)]
theorem clamp_le (p:Int):clampN p≤64:=by unfold clampN;omega
theorem sliceF_loose {x hi:S} {t:T} {p:Option Ptr} {len o k:Nat} (hx:x.get t=some (.slice p len len o)) (hhi:hi.get t=some (.int .i64 (k:Int))) (hk:k≤len) (hc:(len=0∧p=none∧o=0)∨(len≠0∧o=65)):sliceF 65 x none (some hi) none t=some (.slice p k len o):=by
 have hb:bounds len len none (some (.int .i64 (k:Int))) none=some (0,k,len):=by
  simp only[bounds,boundD,bound,C5,nble]
  simp[hk]
 unfold sliceF
 simp only[hx,hhi,oget,Option.map_some]
 rcases hc with ⟨h1,h2,h3⟩ | ⟨h1,h2⟩
 ·subst h1;subst h2;subst h3
  simp only[nbeq,hb]
  simp
 ·subst h2
  have:1≤len:=by omega
  simp only[nbeq,nble,hb]
  simp[this,Ca,B9]
def bl (B:Nat):(n j:Nat)→List Nat
 | 0,_=>[]
 | n+1,j=>byte B j::bl B n (j+1)
def puts (B:Nat) (j:Nat):List Nat→Nat
 | []=>B
 | x::xs=>puts (setByte B j x) (j+1) xs
def tornN (old now n:Nat):Nat:=puts old 0 (bl now n 0)
theorem cut_byte (B j:Nat) (hj:j < 64):cut [.blk B] j 1=some [.int .u8 (.ofNat (byte B j))]:=by
 have e:min 1 (64 - j)=1:=by omega
 have h1:¬ (64≤j):=by omega
 simp only[cut,nbeq,nble,V.asBlk,Cb,e]
 simp[h1]
 rfl
theorem put_byte (B j x:Nat) (hj:j < 64) (hx:x < 256):put [.blk B] j [.int .u8 (.ofNat x)]=some [.blk (setByte B j x)]:=by
 have h1:¬ (64≤j):=by omega
 have h2:x≤255:=by omega
 have hp:putBytes [.int .u8 (.ofNat x)] j B=some (setByte B j x,[]):=by
  simp only[putBytes,nble]
  simp[h1,h2,putBytes]
 have ha:V.asBlk (.int .u8 (.ofNat x))=none:=rfl
 have hb:V.asBlk (.blk B)=some B:=rfl
 unfold put
 simp only[hb,ha,hp,nble]
 simp[h1,put_nil]
theorem elems_bytes {H:Heap} {c:Bk} {k:IntKind} {nn:Int} {B:Nat} (hc:H.get c=some (.rows false 65 [[.int k nn,.blk B]])):∀(n j:Nat),j+n≤64→elems H c 1 n (j+1)=some ((bl B n j).map fun x=>[.int .u8 (.ofNat x)])
 | 0,j,_=>rfl
 | n+1,j,h=>by
  have hl:loadAt H ⟨c,j+1⟩ 1=some [.int .u8 (.ofNat (byte B j))]:=by
   rw[loadAt_eq hc (r:=[.int k nn,.blk B]) (by rw[Nat.div_eq_of_lt (by omega)];rfl),Nat.mod_eq_of_lt (by omega),cut_miss (n:=0) _ _ _ (by rfl)]
   exact cut_byte B j (by omega)
  simp only[elems,hl,B9]
  rw[elems_bytes hc n (j+1) (by omega)]
  rfl
theorem store_byte {H:Heap} {b:Bk} {y:Lay} {D:Dev} (h:DevAt H b y D) {w j x:Nat} (hw:w < D.S.length) (hj:j < 64) (hx:x < 256):storeAt H ⟨y.s,w*64+j⟩ [.int .u8 (.ofNat x)]=some (H.set y.s (.rows false 64 (sureRows (D.S.set w (setByte D.S[w] j x))))):=by
 have e1:(w*64+j) / 64=w:=by omega
 have e2:(w*64+j) % 64=j:=by omega
 rw[storeAt_eq h.sure (r:=[.blk D.S[w]]) (r':=[.blk (setByte D.S[w] j x)]) (nth_of (by rw[e1];simp[sureRows,hw])) (by rw[e2];exact put_byte _ _ _ hj hx),e1]
 simp[sureRows,List.map_set]
theorem store_bytes:∀(xs:List Nat) {H:Heap} {b:Bk} {y:Lay} {D:Dev} {w j:Nat} (h:DevAt H b y D) (hw:w < D.S.length),j+xs.length≤64→(∀ x ∈ xs,x < 256) →
  ∃ H',storeElems y.s 1 (xs.map fun x=>[.int .u8 (.ofNat x)]) (w*64+j) H=some H'∧DevAt H' b y { D with S:=D.S.set w (puts D.S[w] j xs) }∧Turns (fun c=>c=y.s) H H'
 | [],H,b,y,D,w,j,h,hw,_,_=>⟨H,rfl,by simpa [puts] using h,Turns.refl _ _⟩
 | x::xs,H,b,y,D,w,j,h,hw,hl,hx=>by
  have hl':j+1+xs.length≤64:=by simp at hl;omega
  have st:=store_byte h hw (j:=j) (by omega) (hx x (List.mem_cons_self ..))
  have hd:=h.setS (S':=D.S.set w (setByte D.S[w] j x)) (by simp)
  obtain⟨H',e,hD,hT⟩:=store_bytes xs (j:=j+1) hd (w:=w) (by simpa using hw) hl' (fun z hz=>hx z (List.mem_cons_of_mem _ hz))
  refine⟨H',?_,?_,(Turns.set (X:=fun c=>c=y.s) rfl _ _).trans hT⟩
  ·simp only[List.map_cons,storeElems,st,B9]
   rw[show w*64+j+1=w*64+(j+1) by omega]
   exact e
  ·simpa [puts] using hD
theorem bl_length (B:Nat):∀ n j,(bl B n j).length=n
 | 0,_=>rfl
 | n+1,j=>by simp[bl,bl_length B n (j+1)]
theorem bl_lt (B:Nat):∀ n j,∀ x ∈ bl B n j,x < 256
 | 0,_,x,h=>by simp[bl] at h
 | n+1,j,x,h=>by
  simp only[bl,List.mem_cons] at h
  rcases h with rfl | h
  ·exact byte_lt _ _
  ·exact bl_lt B n (j+1) x h
theorem copy_block {H:Heap} {b:Bk} {y:Lay} {D:Dev} (h:DevAt H b y D) {c:Bk} {w B n:Nat} {k:IntKind} {nn:Int} (hc:H.get c=some (.rows false 65 [[.int k nn,.blk B]])) (hw:w < D.S.length) (hn:n≤64) :
  ∃ H',copyV 1 H (.slice (some ⟨y.s,w*64⟩) n 64 0) (.slice (some ⟨c,1⟩) n 64 0)=some (.int .i64 (n:Int),H')∧DevAt H' b y { D with S:=D.S.set w (tornN D.S[w] B n) }∧Turns (fun x=>x=y.s) H H':=by
 by_cases h0:n=0
 ·subst h0
  refine⟨H,by simp[copyV],by simpa [tornN,bl,puts] using h,Turns.refl _ _⟩
 ·have he:=elems_bytes hc n 0 (by omega)
  obtain⟨H',e,hD,hT⟩:=store_bytes (bl B n 0) (j:=0) h hw (by rw[bl_length];omega) (bl_lt B n 0)
  refine⟨H',?_,hD,hT⟩
  simp only[copyV,Nat.min_self,nbeq,firstE]
  simp only[h0,decide_false]
  rw[show (1:Nat)=0+1 from rfl,he]
  rw[Nat.add_zero] at e
  simp only[e,Option.map_some]
  rfl
theorem getD_lt {l:List Nat} {n:Nat} (h:n < l.length):l.getD n 0=l[n]:=by simp[List.getD,h]
structure PicksAt (H:Heap) (pp:Option Ptr) (P:List Int) (X:Bk→Prop):Prop where
 has:P≠[]→∃ x ox ro rows,pp=some ⟨x,ox⟩∧H.Old x∧¬ X x∧H.get x=some (.rows ro 1 rows)∧∀ i,(hi:i < P.length)→rows[ox+i]?=some [.int .i64 P[i]]
theorem PicksAt.load {H:Heap} {pp:Option Ptr} {P:List Int} {X:Bk→Prop} (h:PicksAt H pp P X) {i:Nat} (hi:i < P.length):∃ x ox,pp=some ⟨x,ox⟩∧loadAt H ⟨x,ox+i⟩ 1=some [.int .i64 P[i]]:=by
 obtain⟨x,ox,ro,rows,hp,_,_,hg,hr⟩:=h.has (fun e=>by rw[e] at hi;simp at hi)
 refine⟨x,ox,hp,?_⟩
 rw[loadAt_eq hg (r:=[.int .i64 P[i]]) (nth_of (by rw[Nat.div_one];exact hr i hi)),Nat.mod_one]
 exact cut_hit _ _ rfl
theorem PicksAt.turns {H H':Heap} {pp:Option Ptr} {P:List Int} {X:Bk→Prop} (h:PicksAt H pp P X) (k:Turns X H H'):PicksAt H' pp P X:=⟨fun e=>by
 obtain⟨x,ox,ro,rows,hp,ho,hx,hg,hr⟩:=h.has e
 exact⟨x,ox,ro,rows,hp,ho.mono k.next,hx,(k.same x ho hx).trans hg,hr⟩⟩
theorem PicksAt.at' {H H':Heap} {pp:Option Ptr} {P:List Int} {X:Bk→Prop} (h:PicksAt H pp P (fun _=>False)) (k:Turns (fun _=>False) H H') (hX:∀ c,X c→¬ H.Old c):PicksAt H' pp P X:=⟨fun e=>by
 obtain⟨x,ox,ro,rows,hp,ho,hx,hg,hr⟩:=h.has e
 exact⟨x,ox,ro,rows,hp,ho.mono k.next,fun hx=>hX x hx ho,(k.same x ho id).trans hg,hr⟩⟩
def crashS (S:List Nat) (l:List ((Nat × Nat) × Int)):List Nat:=l.foldl (fun S w=>S.set w.1.1 (tornN (S.getD w.1.1 0) w.1.2 (clampN w.2))) S
theorem crashS_length:∀(l:List ((Nat × Nat) × Int)) (S:List Nat),(crashS S l).length=S.length
 | [],S=>rfl
 | w::l,S=>(crashS_length l _).trans (by simp)
theorem crashS_take {l:List ((Nat × Nat) × Int)} {i:Nat} (hi:i < l.length) (S:List Nat):crashS S (l.take (i+1))=(crashS S (l.take i)).set l[i].1.1 (tornN ((crashS S (l.take i)).getD l[i].1.1 0) l[i].1.2 (clampN l[i].2)):=by
 unfold crashS
 rw[List.take_succ_eq_append_getElem hi,List.foldl_append];rfl
theorem crash_ok {H:Heap} {b:Bk} {y:Lay} {D:Dev} (h:DevAt H b y D) (hS:D.S≠[]) (hok:∀ w ∈ D.L,w.1 < D.S.length) (hmax:D.L.length < 1000000) {pp:Option Ptr} {P:List Int} {pc po:Nat} (hP:PicksAt H pp P (Foot b y D)) {lf:Nat} (hlf:D.L.length+1 < lf) (m:Nat) :
  ret (callS Tryd.prog S0 lf (m+2) 46 [.ptr (some ⟨b,0⟩),.slice pp P.length pc po] H) fun v H'=>v=.tuple [.int .i64 ((min D.L.length P.length:Nat):Int),.int .i64 0]∧Next H b y D H' { y with p:=none,o:=0 } { D with S:=crashS D.S (D.L.zip P),L:=[] }:=by
 have l1:=load1 h
 refine ret_call rfl c46_eq ?_
 obtain⟨v,H1,e,rfl,e1⟩:=none_ret h hS lf m
 subst e1
 have hzl:(D.L.zip P).length=min D.L.length P.length:=List.length_zip
 have hloop:∀ t:T,t.getP (Tr.path 0)=some (.ptr (some ⟨b,0⟩))→t.getP (Tr.path 1)=some (.slice pp P.length pc po)→t.getP (Tr.path 6)=some (.int .i64 ((min D.L.length P.length:Nat):Int))→t.getP (Tr.path 25)=some (.slice y.p (min D.L.length P.length) D.L.length y.o)→t.getP (Tr.path 26)=some (.int .i64 ((min D.L.length P.length:Nat):Int))→t.getP (Tr.path 27)=some (.int .i64 0) →
   wp (loopF (runC (callS Tryd.prog S0 lf (m+1)) lf c46_l0) lf ⟨t,H1,[]⟩) fun x s=>
    x=.ex 0∧s.d=[]∧s.t.getP (Tr.path 0)=some (.ptr (some ⟨b,0⟩))∧s.t.getP (Tr.path 6)=some (.int .i64 ((min D.L.length P.length:Nat):Int))∧DevAt s.H b y { D with S:=crashS D.S (D.L.zip P) }∧Turns (Foot b y D) H1 s.H:=by
  intro t q0 q1 q6 q25 q26 q27
  refine wp_loopF (fun k s=>∃ i,i+k=min D.L.length P.length∧s.d=[]∧s.t.getP (Tr.path 0)=some (.ptr (some ⟨b,0⟩))∧s.t.getP (Tr.path 1)=some (.slice pp P.length pc po)∧s.t.getP (Tr.path 6)=some (.int .i64 ((min D.L.length P.length:Nat):Int))∧s.t.getP (Tr.path 25)=some (.slice y.p (min D.L.length P.length) D.L.length y.o)∧s.t.getP (Tr.path 26)=some (.int .i64 ((min D.L.length P.length:Nat):Int))∧s.t.getP (Tr.path 27)=some (.int .i64 (i:Int))∧DevAt s.H b y { D with S:=crashS D.S ((D.L.zip P).take i) }∧Turns (Foot b y D) H1 s.H) ?_ lf (min D.L.length P.length) _ ⟨0,by simp,rfl,q0,q1,q6,q25,q26,q27,h,Turns.refl _ _⟩ (by omega)
  rintro k ⟨t,HH,d⟩ ⟨i,hi,rfl,q0,q1,q6,q25,q26,q27,hD,hT⟩
  dsimp only at q0 q1 q6 q25 q26 q27 hD hT
  cases k with
  | zero=>
   have hi:i=min D.L.length P.length:=by omega
   rw[hi,← hzl,List.take_length] at hD
   subst hi
   generalize min D.L.length P.length=mm at q6 q25 q26 q27 ⊢
   have hg:¬ (mm < mm):=Nat.lt_irrefl _
   simp only[c46_l0,q0,q1,q6,q25,q26,q27,hg,sy,tup,↓reduceIte,zA,zG,zC,zD,zF,zE,zB,zH,reduceCtorEq]
   exact⟨trivial,trivial,trivial,trivial,hD,hT⟩
  | succ k=>
   have hi':i < min D.L.length P.length:=by omega
   have hiz:i < (D.L.zip P).length:=by omega
   have hi1:i+1≤min D.L.length P.length:=hi'
   have hiL:i < D.L.length:=by omega
   have hiP:i < P.length:=by omega
   have hiP1:i+1≤P.length:=hiP
   have hp:=(h.loose (fun e=>by rw[e] at hiL;simp at hiL)).1
   have lw:=loadLw hD hiL
   have hA:Turns Z HH ((HH.add (.rows false 65 [[.int .i64 0,.blk 0]])).set (.run HH.next) (.rows false 65 [[.int .i64 (D.L[i].1:Int),.blk D.L[i].2]])):=(Turns.add Z HH _).setnew (Nat.le_refl _) _
   have hTA:=hT.trans (hA.wide (Y:=Foot b y D) (fun c hc=>hc.elim))
   have hK:=hD.turns hA id id (fun _=>id)
   obtain⟨x,ox,hpx,lp⟩:=(hP.turns hTA).load hiP
   have hn:D.L[i].1 < (crashS D.S ((D.L.zip P).take i)).length:=by rw[crashS_length];exact hok _ (List.getElem_mem _)
   have hn1:D.L[i].1+1≤(crashS D.S ((D.L.zip P).take i)).length:=hn
   have l0:=load0 hK
   have hcl:(if 64 < if P[i] < 0 then 0 else P[i] then 64 else if P[i] < 0 then 0 else P[i])=(clampN P[i]:Int):=by rw[← clamp_eq];split<;>split at*<;> omega
   have hcle:=clamp_le P[i]
   obtain⟨H3,ec,hD3,hT3⟩:=copy_block hK (c:=.run HH.next) (by rw[Heap.get_set,if_pos rfl]) hn hcle
   have hw:IntKind.i64.wrap ((i:Int)+1)=((i+1:Nat):Int):=by rw[wrap_i64 (by omega)];rfl
   have hb64:bounds 64 64 none (some (.int .i64 (clampN P[i]:Int))) none=some (0,clampN P[i],64):=by
    simp only[bounds,boundD,bound,C5,nble]
    simp[hcle]
   rw[hp] at q25
   rw[hpx] at q1
   generalize hmm:min D.L.length P.length=mm at q6 q25 q26 q27 hi hi' hi1 ⊢
   simp only[c46_l0,q0,q1,q6,q25,q26,q27,hi',hi1,hiP1,hn1,lw,l0,lp,foldF,foldV_max,foldV_min,hcl,Nat.mul_one,Nat.sub_zero,hb64,ec,sy,tup,↓reduceIte,zA,zG,zC,zD,zF,zE,zB,zH,reduceCtorEq]
   rw[endD_ok (by kernel_rfl) (by kernel_rfl)]
   simp only[q0,q1,q6,q25,q26,q27,hw,sy,tup,↓reduceIte,zA,zG,zC,zD,zF,zE,zB,zH,reduceCtorEq]
   refine⟨k,Nat.lt_succ_self k,i+1,by omega,trivial,trivial,by rw[hpx],trivial,by rw[hp],trivial,rfl,?_,hTA.trans (hT3.wide (fun c hc=>.inr (.inl hc)))⟩
   rw[crashS_take hiz,List.getElem_zip,getD_lt hn]
   exact hD3
 have hmm:(if P.length < D.L.length then(P.length:Int) else(D.L.length:Int))=((min D.L.length P.length:Nat):Int):=by split<;>omega
 have hsl:∀(x hi:S) (t:T),x.get t=some (.slice y.p D.L.length D.L.length y.o)→hi.get t=some (.int .i64 ((min D.L.length P.length:Nat):Int))→sliceF 65 x none (some hi) none t=some (.slice y.p (min D.L.length P.length) D.L.length y.o):=fun x hi t h1 h2=>sliceF_loose h1 h2 (by omega) (by
  by_cases hL:D.L=[]
  ·exact .inl ⟨by rw[hL];rfl,h.nil hL⟩
  ·exact .inr ⟨by simpa using hL,(h.loose hL).2.1⟩)
 simp only[c46,e,l1,foldF,foldV_min,hmm,↓hsl,sy,tup,↓reduceIte,zA,zG,zC,zD,zF,zE,zB,zH,reduceCtorEq]
 refine wp_ctx (F:=fun r=>seqC _ _ _ (blockC _ r)) (hloop _ ?_ ?_ ?_ ?_ ?_ ?_) ?_
 ·simp only[sy,tup,↓reduceIte,zA,zG,zC,zD,zF,zE,zB,zH,reduceCtorEq]
 ·simp only[sy,tup,↓reduceIte,zA,zG,zC,zD,zF,zE,zB,zH,reduceCtorEq]
 ·simp only[sy,tup,↓reduceIte,zA,zG,zC,zD,zF,zE,zB,zH,reduceCtorEq]
 ·simp only[sy,tup,↓reduceIte,zA,zG,zC,zD,zF,zE,zB,zH,reduceCtorEq]
 ·simp only[sy,tup,↓reduceIte,zA,zG,zC,zD,zF,zE,zB,zH,reduceCtorEq]
 ·simp only[sy,tup,↓reduceIte,zA,zG,zC,zD,zF,zE,zB,zH,reduceCtorEq]
 rintro x ⟨t,HH,d⟩ ⟨rfl,rfl,q0,q6,hD,hT⟩
 dsimp only at q0 q6 hD hT
 have st:=storeNil hD
 simp only[q0,q6,st,sy,tup,↓reduceIte,zA,zG,zC,zD,zF,zE,zB,zH,reduceCtorEq]
 exact⟨trivial,.inr trivial,_,rfl,rfl,hD.clear D.dead,hT.setm (.inl rfl) _,rfl,fun e=>absurd rfl e⟩
end Go.Proofs.YtabebpemfinejaaDoor.disk
namespace Go.Proofs.YtabebpemfinejaaDoor.disk
open Go.Am
theorem Turns.after {X:Bk→Prop} {H0 H H':Heap} {Y:Bk→Prop} (h:Turns X H0 H) (k:Turns Y H H') (hy:∀ c,H0.Old c→Y c→X c):Turns X H0 H':=
 ⟨Nat.le_trans h.next k.next,fun c hc hx=>(k.same c (hc.mono h.next) (fun e=>hx (hy c hc e))).trans (h.same c hc hx),fun q=>k.q (h.q q)⟩
structure Fresh (H0:Heap) (b:Bk) (y:Lay) (D:Dev):Prop where
 b:¬ H0.Old b
 s:¬ H0.Old y.s
 l:D.L≠[]→¬ H0.Old y.l
theorem Fresh.foot {H0:Heap} {b:Bk} {y:Lay} {D:Dev} (h:Fresh H0 b y D):∀ c,Foot b y D c→¬ H0.Old c:=by
 rintro c (rfl | rfl | ⟨hl,rfl⟩)
 ·exact h.b
 ·exact h.s
 ·exact h.l hl
theorem Fresh.next {H0 H H':Heap} {b:Bk} {y y':Lay} {D D':Dev} (h:Fresh H0 b y D) (hn:H0.next≤H.next) (k:Next H b y D H' y' D'):Fresh H0 b y' D':=
 ⟨h.b,by rw[k.s];exact h.s,fun e=>by
  rcases k.l e with ⟨h1,h2⟩ | h1
  ·rw[h2];exact h.l h1
  ·exact fun o=>h1 (o.mono hn)⟩
theorem Fresh.turns {H0 H H':Heap} {b:Bk} {y y':Lay} {D D':Dev} (h:Fresh H0 b y D) (hT:Turns Z H0 H) (k:Next H b y D H' y' D'):Turns Z H0 H':=
 Turns.after hT k.turns (fun c hc hx=>(h.foot c hx hc).elim)
theorem new_ok (H:Heap) {n:Nat} (h1:1≤n) (h2:n≤512) (lf m:Nat):ret (callS Tryd.prog S0 lf (m+1) 51 [.int .i64 (n:Int)] H) fun v H'=>v=.tuple [.ptr (some ⟨.run (H.next+1),0⟩),.int .i64 0] ∧
  DevAt H' (.run (H.next+1)) ⟨.run H.next,0,.run H.next,none,0⟩ ⟨List.replicate n 0,[],false⟩∧Turns Z H H':=by
 have g1:¬ ((n:Int) < 1):=by omega
 have g2:¬ (512 < (n:Int)):=by omega
 have g3:n≤n:=Nat.le_refl _
 have g4:n*64≤1099511627776:=by omega
 have g4':64*n≤1099511627776:=by omega
 have g5:n≤1099511627776:=by omega
 refine ret_call rfl c51_eq ?_
 simp only[c51,g1,g2,g3,g4,g4',g5,mksliceF,sy,tup,↓reduceIte,zA,zG,zC,zD,zF,zE,zB,zH,reduceCtorEq]
 refine⟨trivial,.inr trivial,_,rfl,rfl,?_,((Turns.refl Z H).addm _).addm _⟩
 refine⟨?_,?_,fun _=>⟨rfl,rfl⟩,fun e=>absurd rfl e,⟨?_,?_,fun e=>absurd rfl e⟩,by simp,fun e=>absurd rfl e⟩
 ·rw[Heap.get_add,if_pos (by simp)];simp
 ·rw[Heap.get_add,if_neg (by simp),Heap.get_add,if_pos rfl]
  simp[sureRows]
 ·show _ < _
  first | (simp;done) | (simp;omega)
 ·show _ < _
  first | (simp;done) | (simp;omega)
structure WritesAt (H:Heap) (pp:Option Ptr) (W:List (Int × Nat)):Prop where
 at':W≠[]→∃ x ro rows,pp=some ⟨x,0⟩∧H.Old x∧H.get x=some (.rows ro 65 rows)∧∀ i,(hi:i < W.length)→rows[i]?=some [.int .i64 W[i].1,.blk W[i].2]
theorem WritesAt.turns {H H':Heap} {pp:Option Ptr} {W:List (Int × Nat)} (h:WritesAt H pp W) (k:Turns Z H H'):WritesAt H' pp W:=⟨fun e=>by
 obtain⟨x,ro,rows,hp,ho,hg,hr⟩:=h.at' e
 exact⟨x,ro,rows,hp,ho.mono k.next,(k.same x ho id).trans hg,hr⟩⟩
theorem WritesAt.load {H:Heap} {pp:Option Ptr} {W:List (Int × Nat)} (h:WritesAt H pp W) {i:Nat} (hi:i < W.length):∃ x,pp=some ⟨x,0⟩∧loadAt H ⟨x,i*65⟩ 1=some [.int .i64 W[i].1]∧loadAt H ⟨x,i*65+1⟩ 64=some [.blk W[i].2]:=by
 obtain⟨x,ro,rows,hp,_,hg,hr⟩:=h.at' (fun e=>by rw[e] at hi;simp at hi)
 have e1:(i*65+1) / 65=i:=by omega
 have e2:(i*65+1) % 65=0+1:=by omega
 refine⟨x,hp,?_,?_⟩
 ·rw[loadAt_eq hg (r:=[.int .i64 W[i].1,.blk W[i].2]) (nth_of (by rw[Nat.mul_div_cancel _ (by decide)];exact hr i hi)),Nat.mul_mod_left]
  exact cut_hit _ _ rfl
 ·rw[loadAt_eq hg (r:=[.int .i64 W[i].1,.blk W[i].2]) (nth_of (by rw[e1];exact hr i hi)),e2,cut_miss (n:=63) _ _ _ (by rfl)]
  exact Dj _ _
structure Kept (H:Heap) (c:Bk) (o:Am.Obj) (b:Bk) (y:Lay) (D:Dev):Prop where
 old:H.Old c
 get:H.get c=some o
 nb:c≠b
 ns:c≠y.s
 nl:D.L≠[]→c≠y.l
theorem Kept.next {H H':Heap} {c b:Bk} {o:Am.Obj} {y y':Lay} {D D':Dev} (h:Kept H c o b y D) (k:Next H b y D H' y' D'):Kept H' c o b y' D':=by
 refine⟨h.old.mono k.turns.next,(k.turns.same c h.old ?_).trans h.get,h.nb,by rw[k.s];exact h.ns,fun e=>?_⟩
 ·rintro(rfl | rfl | ⟨hl,rfl⟩)
  ·exact h.nb rfl
  ·exact h.ns rfl
  ·exact h.nl hl rfl
 ·rcases k.l e with ⟨h1,h2⟩ | h1
  ·rw[h2];exact h.nl h1
  ·rintro rfl;exact h1 h.old
theorem Kept.turns {H H':Heap} {c b:Bk} {o:Am.Obj} {y:Lay} {D:Dev} (h:Kept H c o b y D) (k:Turns Z H H'):Kept H' c o b y D:=
 ⟨h.old.mono k.next,(k.same c h.old id).trans h.get,h.nb,h.ns,h.nl⟩
theorem load_of {H:Heap} {c:Bk} {x:Nat} (h:H.get c=some (.rows false 64 [[.blk x]])):loadAt H ⟨c,0⟩ 64=some [.blk x]:=by
 rw[loadAt_eq h (r:=[.blk x]) rfl];exact Dj _ _
theorem crashS_other:∀(l:List ((Nat × Nat) × Int)) (S:List Nat) (k:Nat),(∀ w ∈ l,w.1.1≠k)→(crashS S l).getD k 0=S.getD k 0
 | [],S,k,_=>rfl
 | w::l,S,k,h=>by
  refine(crashS_other l _ k (fun v hv=>h v (List.mem_cons_of_mem _ hv))).trans ?_
  simp[List.getD,List.getElem?_set_ne (h w (List.mem_cons_self ..))]
end Go.Proofs.YtabebpemfinejaaDoor.disk
namespace Go.Proofs.YtabebpemfinejaaDoor.disk
open Go.Am
noncomputable def c41:CFn:=⟨[.tmp (pp 8)],
 .seq (.reg [
 qo 8 (.p (S.get (ii 0))) []]) (
 .seq (.seq (.reg [
 mv 10 0,
 mv 11 1,
 qo 12 (.c (callF (ff 69) [(tt 10),(tt 11)])) [pp 10,pp 11],
 mv 9 12]) (
 .block 0 (.seq (.reg [
 mv 14 9,
 qo 15 (.p (eqcF false false [.int .i64] (tt 14) (ii 1))) [pp 14],
 mv 13 15]) (
 .cond (tt 13) (.seq (.reg [
 mv 16 9,
 mv 8 16]) (
 .ret)) (.seq (.reg [
 mv 18 9,
 qo 19 (.p (eqcF false false [.int .i64] (tt 18) (ii 2))) [pp 18],
 mv 20 19,
 mg 21 2 20 false,
 qg 22 (.p (arF .lss (tt 21) (ii 0))) 20 false [pp 21],
 qo 23 (.p (pickF (tt 20) (.c (.bool true)) (tt 22))) [pp 20,pp 22],
 mv 24 23,
 mg 25 2 24 false,
 qg 26 (.p (arF .geq (tt 25) (ii 64))) 24 false [pp 25],
 qo 27 (.p (pickF (tt 24) (.c (.bool true)) (tt 26))) [pp 24,pp 26],
 mv 17 27]) (
 .cond (tt 17) (.seq (.reg [
 qo 8 (.p (S.get (ii 2))) []]) (
 .ret)) (.seq (.reg [
 mv 29 9,
 qo 30 (.p (eqcF true false [.int .i64] (tt 29) (ii 0))) [pp 29],
 mv 28 30]) (
 .cond (tt 28) (.seq (.reg [
 mv 31 9,
 mv 8 31]) (
 .ret)) (.skip))))))))) (
 .seq (.regD [
 mv 32 0,
 qo 33 (.p (nilcF (tt 32))) [pp 32],
 qo 34 (.p (faddrF (tt 33) 0)) [pp 33],
 qo 35 (.r (loadF (tt 34) 1 .sc)) [pp 34],
 mv 36 1,
 mv 37 2,
 qo 38 (.p (iaddrSF (tt 35) (tt 36) 64)) [pp 35,pp 36],
 qo 39 (.p (iaddrAF (tt 38) (tt 37) 64 1)) [pp 38,pp 37],
 qo 40 (.r (loadF (tt 39) 1 .sc)) [pp 39],
 mv 41 3,
 qo 42 (.p (arF .xor (tt 40) (tt 41))) [pp 40,pp 41],
 qo 43 (.p (iaddrSF (tt 35) (tt 36) 64)) [pp 35,pp 36],
 qo 44 (.p (iaddrAF (tt 43) (tt 37) 64 1)) [pp 43,pp 37],
 qn (.a (storeF (tt 44) (tt 42) 1)) [pp 44,pp 42]] [0,1,3,7,0,0,31,127,255,0,1023,31,4095,8191]) (
 .seq (.reg [
 qo 8 (.p (S.get (ii 0))) []]) (
 .ret))))⟩
theorem c41_eq:fnOf Tryd.prog 41=some c41:=by kernel_rfl
noncomputable def xo8 (a b:Nat):Nat:=Nat.xor a b
theorem xo8_lt {a b:Nat} (h:a < 256) (k:b < 256):xo8 a b < 256:=Nat.xor_lt_two_pow (n:=8) h k
theorem u8_wrap {n:Nat} (h:n < 256):IntKind.u8.wrap (n:Int)=n:=by
 show (if false&&decide ((n:Int) % (2 ^ 8:Int)≥(2 ^ (8 - 1):Int)) then(n:Int) % (2 ^ 8:Int) - (2 ^ 8:Int) else(n:Int) % (2 ^ 8:Int))=n
 rw[show (2 ^ 8:Int)=256 from rfl]
 simp only[Bool.false_and,Bool.false_eq_true,if_false]
 omega
theorem fits_u8 {n:Nat} (h:n < 256):fitsK .u8 n=true:=by
 show Nat.ble n 255=true
 rw[ble_iff];omega
theorem xor_u8 {a b:Nat} (h:a < 256) (k:b < 256):arith .xor (.int .u8 (a:Int)) (.int .u8 (b:Int))=some (.int .u8 ((xo8 a b:Nat):Int)):=by
 have e:bitI Nat.xor (fun _ a b=>a ^^^ b) .u8 (a:Int) (b:Int)=((xo8 a b:Nat):Int):=by
  show (match fitsK .u8 a&&fitsK .u8 b with | true=>Int.ofNat (Nat.xor a b) | false=>_)=_
  rw[fits_u8 h,fits_u8 k];rfl
 show (match decide (IntKind.u8=IntKind.u8) with | false=>none | true=>mkI .u8 (bitI Nat.xor (fun _ a b=>a ^^^ b) .u8 (a:Int) (b:Int)))=_
 rw[e,C4,u8_wrap (xo8_lt h k)];rfl
theorem load_byte {H:Heap} {b:Bk} {y:Lay} {D:Dev} (h:DevAt H b y D) {w j:Nat} (hw:w < D.S.length) (hj:j < 64):loadAt H ⟨y.s,w*64+j⟩ 1=some [.int .u8 ((byte D.S[w] j:Nat):Int)]:=by
 have e1:(w*64+j) / 64=w:=by omega
 have e2:(w*64+j) % 64=j:=by omega
 rw[loadAt_eq h.sure (r:=[.blk D.S[w]]) (nth_of (by rw[e1];simp[sureRows,hw])),e2]
 exact cut_byte _ _ hj
theorem cell_load_byte {H:Heap} {c:Bk} {x j:Nat} (h:H.get c=some (.rows false 64 [[.blk x]])) (hj:j < 64):loadAt H ⟨c,j⟩ 1=some [.int .u8 ((byte x j:Nat):Int)]:=by
 rw[loadAt_eq h (r:=[.blk x]) (by rw[Nat.div_eq_of_lt hj];rfl),Nat.mod_eq_of_lt hj]
 exact cut_byte _ _ hj
theorem cell_store_byte {H:Heap} {c:Bk} {x j v:Nat} (h:H.get c=some (.rows false 64 [[.blk x]])) (hj:j < 64) (hv:v < 256):storeAt H ⟨c,j⟩ [.int .u8 (v:Int)]=some (H.set c (.rows false 64 [[.blk (setByte x j v)]])):=by
 rw[storeAt_eq h (r:=[.blk x]) (r':=[.blk (setByte x j v)]) (by rw[Nat.div_eq_of_lt hj];rfl) (by rw[Nat.mod_eq_of_lt hj];exact put_byte _ _ _ hj hv),Nat.div_eq_of_lt hj]
 rfl
theorem cell_store {H:Heap} {c:Bk} {x v:Nat} (h:H.get c=some (.rows false 64 [[.blk x]])):storeAt H ⟨c,0⟩ [.blk v]=some (H.set c (.rows false 64 [[.blk v]])):=by
 rw[storeAt_eq h (r:=[.blk x]) (r':=[.blk v]) rfl (Di _ _ _)];rfl
noncomputable def rotN (x j by':Nat):Nat:=setByte x j (xo8 (byte x j) by')
theorem rot_ok {H:Heap} {b:Bk} {y:Lay} {D:Dev} (h:DevAt H b y D) {n j by':Nat} (hn:n < D.S.length) (hd:D.dead=false) (hj:j < 64) (hb:by' < 256) (lf m:Nat) :
  ret (callS Tryd.prog S0 lf (m+3) 41 [.ptr (some ⟨b,0⟩),.int .i64 (n:Int),.int .i64 (j:Int),.int .u8 (by':Int)] H) fun v H'=>v=.int .i64 0∧Next H b y D H' y { D with S:=D.S.set n (rotN D.S[n] j by') }:=by
 refine ret_call rfl c41_eq ?_
 obtain⟨v,H1,e,rfl,e1⟩:=asked_ok h hn hd lf m
 subst e1
 have l0:=load0 h
 have lb:=load_byte h hn hj
 have hx:=xor_u8 (byte_lt D.S[n] j) hb
 have st:storeAt H1 ⟨y.s,n*64+j⟩ [.int .u8 ((xo8 (byte D.S[n] j) by':Nat):Int)]=_:=store_byte h hn hj (xo8_lt (byte_lt _ _) hb)
 have g1:¬ ((j:Int) < 0):=by omega
 have g2:¬ ((64:Int)≤(j:Int)):=by omega
 have g3:n+1≤D.S.length:=hn
 have g4:j+1≤64:=hj
 simp only[c41,e,l0,lb,hx,st,g1,g2,g3,g4,iaddrAF,Nat.mul_one,sy,tup,↓reduceIte,zA,zG,zC,zD,zF,zE,zB,zH,reduceCtorEq]
 rw[endD_ok (by kernel_rfl) (by kernel_rfl)]
 simp only[sy,tup,↓reduceIte,zA,zG,zC,zD,zF,zE,zB,zH,reduceCtorEq]
 exact⟨trivial,.inr trivial,_,rfl,rfl,h.setS (by simp),Turns.set (.inr (.inl rfl)) _ _,rfl,fun e=>.inl ⟨e,rfl⟩⟩
theorem bl_succ (B:Nat):∀ n j,bl B (n+1) j=bl B n j++[byte B (j+n)]
 | 0,j=>rfl
 | n+1,j=>by
  show byte B j::bl B (n+1) (j+1)=byte B j::(bl B n (j+1)++[byte B (j+(n+1))])
  rw[bl_succ B n (j+1),show j+1+n=j+(n+1) by omega]
theorem puts_append:∀(xs:List Nat) (B j x:Nat),puts B j (xs++[x])=setByte (puts B j xs) (j+xs.length) x
 | [],B,j,x=>rfl
 | z::xs,B,j,x=>by
  show puts (setByte B j z) (j+1) (xs++[x])=setByte (puts (setByte B j z) (j+1) xs) _ x
  rw[puts_append xs _ (j+1) x,List.length_cons,show j+1+xs.length=j+(xs.length+1) by omega]
theorem tornN_succ (old now i:Nat):tornN old now (i+1)=setByte (tornN old now i) i (byte now i):=by
 unfold tornN
 rw[bl_succ,puts_append,bl_length,Nat.zero_add]
end Go.Proofs.YtabebpemfinejaaDoor.disk
namespace Go.Proofs.YtabebpemfinejaaDoor.disk
open Go.Am
def Sep (b:Bk) (y:Lay) (D:Dev) (b':Bk) (y':Lay) (D':Dev):Prop:=∀ c,Foot b y D c→¬ Foot b' y' D' c
theorem DevAt.foot_old {H:Heap} {b:Bk} {y:Lay} {D:Dev} (h:DevAt H b y D):∀ c,Foot b y D c→H.Old c:=by
 rintro c (rfl | rfl | ⟨hl,rfl⟩)
 ·exact h.old.1
 ·exact h.old.2.1
 ·exact h.old.2.2 hl
theorem Sep.symm {b b':Bk} {y y':Lay} {D D':Dev} (h:Sep b y D b' y' D'):Sep b' y' D' b y D:=fun c h1 h2=>h c h2 h1
theorem Sep.dev {H H':Heap} {b b':Bk} {y y':Lay} {D D':Dev} (hs:Sep b y D b' y' D') (h':DevAt H b' y' D') (k:Turns (Foot b y D) H H'):DevAt H' b' y' D':=
 h'.turns k (fun e=>hs _ e (.inl rfl)) (fun e=>hs _ e (.inr (.inl rfl))) (fun hl e=>hs _ e (.inr (.inr ⟨hl,rfl⟩)))
theorem Sep.next {H H':Heap} {b b':Bk} {y y' y1:Lay} {D D' D1:Dev} (hs:Sep b y D b' y' D') (h':DevAt H b' y' D') (k:Next H b y D H' y1 D1):Sep b y1 D1 b' y' D':=by
 rintro c (rfl | rfl | ⟨hl,rfl⟩) hc
 ·exact hs _ (.inl rfl) hc
 ·rw[k.s] at hc;exact hs _ (.inr (.inl rfl)) hc
 ·rcases k.l hl with ⟨h1,h2⟩ | h1
  ·rw[h2] at hc;exact hs _ (.inr (.inr ⟨h1,rfl⟩)) hc
  ·exact h1 (h'.foot_old _ hc)
theorem sep_fresh {H:Heap} {b b':Bk} {y y':Lay} {D D':Dev} (h:DevAt H b y D) (hF:Fresh H b' y' D'):Sep b y D b' y' D':=fun c hc hc'=>hF.foot c hc' (h.foot_old c hc)
end Go.Proofs.YtabebpemfinejaaDoor.disk
namespace Go.Proofs.YtabebpemfinejaaDoor.disk
open Go.Am
noncomputable def cellH (K:Heap) (x:Nat):Heap:=(K.add (.rows false 64 [[.blk 0]])).set (.run K.next) (.rows false 64 [[.blk x]])
theorem cell_fold (K:Heap) (x:Nat):(K.add (.rows false 64 [[.blk 0]])).set (.run K.next) (.rows false 64 [[.blk x]])=cellH K x:=rfl
theorem cell_turns (K:Heap) (x:Nat):Turns Z K (cellH K x):=(Turns.add Z K _).setnew (Nat.le_refl _) _
theorem byte_tornN (old now:Nat):∀(n j:Nat),byte (tornN old now n) j=if j < n then byte now j else byte old j
 | 0,j=>rfl
 | n+1,j=>by
  rw[tornN_succ,byte_setByte _ _ _ _ (byte_lt _ _),byte_tornN old now n j]
  by_cases h:j=n
  ·subst h;simp
  ·rw[if_neg h]
   by_cases h2:j < n
   ·rw[if_pos h2,if_pos (by omega)]
   ·rw[if_neg h2,if_neg (by omega)]
theorem tornN_lt {old now:Nat} (h:old < 256 ^ 64):∀ n,n≤64→tornN old now n < 256 ^ 64
 | 0,_=>h
 | n+1,hn=>by
  rw[tornN_succ]
  exact setByte_lt _ _ _ (byte_lt _ _) (by omega) (tornN_lt h n (by omega))
theorem eq_of_bytes {a b:Nat} (ha:a < 256 ^ 64) (hb:b < 256 ^ 64) (h:∀ j,j < 64→byte a j=byte b j):a=b:=by
 have key:∀ n,n≤64→a % 256 ^ n=b % 256 ^ n:=by
  intro n
  induction n with
  | zero=>intro _;simp[Nat.mod_one]
  | succ n ih=>
   intro hn
   have e:=h n (by omega)
   rw[byte_eq,byte_eq] at e
   rw[Nat.mod_pow_succ,Nat.mod_pow_succ,ih (by omega),e]
 have:=key 64 (Nat.le_refl _)
 rwa [Nat.mod_eq_of_lt ha,Nat.mod_eq_of_lt hb] at this
def Small (S:List Nat):Prop:=∀ x ∈ S,x < 256 ^ 64
def SmallL (L:List (Nat × Nat)):Prop:=∀ w ∈ L,w.2 < 256 ^ 64
theorem Small.getD {S:List Nat} (h:Small S) (n:Nat):S.getD n 0 < 256 ^ 64:=by
 by_cases hn:n < S.length
 ·rw[getD_lt hn];exact h _ (List.getElem_mem hn)
 ·simp[List.getD,hn]
theorem Small.set {S:List Nat} (h:Small S) (n:Nat) {x:Nat} (hx:x < 256 ^ 64):Small (S.set n x):=fun z hz=>by
 rcases List.mem_or_eq_of_mem_set hz with hz | rfl
 ·exact h z hz
 ·exact hx
theorem Small.flush:∀ {L:List (Nat × Nat)} {S:List Nat},Small S→SmallL L→Small (flushS S L)
 | [],S,h,_=>h
 | w::L,S,h,hl=>Small.flush (L:=L) (h.set w.1 (hl w (List.mem_cons_self ..))) (fun v hv=>hl v (List.mem_cons_of_mem _ hv))
def rowsI (P:List Int):List (List V):=P.map fun p=>[.int .i64 p]
noncomputable def killP (H:Heap):Option Ptr→Heap
 | none=>H
 | some q=>H.set q.b .dead
end Go.Proofs.YtabebpemfinejaaDoor.disk
namespace Go.Proofs.YtabebpemfinejaaDoor.disk
open Go.Am
noncomputable def c76:CFn:=⟨[.tmp (pp 2)],
 .seq (.reg [
 qo 2 (.p (S.get (ii 0))) []]) (
 .seq (.seq (.reg [
 mv 3 0,
 qo 4 (.c (callF (ff 73) [(tt 3)])) [pp 3]]) (
 .cond (tt 4) (.seq (.reg [
 qo 2 (.p (S.get (ii 0))) []]) (
 .ret)) (.skip))) (
 .seq (.reg [
 mv 5 0,
 qo 6 (.p (nilcF (tt 5))) [pp 5],
 qo 7 (.p (faddrF (tt 6) 0)) [pp 6],
 qo 8 (.r (loadF (tt 7) 1 .sc)) [pp 7],
 qo 9 (.p (lenF (tt 8))) [pp 8],
 mv 2 9]) (
 .ret)))⟩
theorem c76_eq:fnOf Tryd.prog 76=some c76:=by kernel_rfl
def code (D:Dev) (n:Int):Int:=if n < 0∨(D.S.length:Int)≤n then 2 else if D.dead=true then 9 else 0
theorem code_out {D:Dev} {n:Int} (h:n < 0∨(D.S.length:Int)≤n):code D n=2:=if_pos h
theorem code_dead {D:Dev} {n:Int} (h:¬ (n < 0∨(D.S.length:Int)≤n)) (hd:D.dead=true):code D n=9:=by unfold code;rw[if_neg h,if_pos hd]
theorem code_ok {D:Dev} {n:Int} (h:¬ (n < 0∨(D.S.length:Int)≤n)) (hd:D.dead=false):code D n=0:=by unfold code;rw[if_neg h,hd];rfl
theorem code_cases (D:Dev) (n:Int):(∃ k:Nat,n=(k:Int)∧k < D.S.length∧D.dead=false∧code D n=0)∨code D n=2∨code D n=9:=by
 by_cases h:n < 0∨(D.S.length:Int)≤n
 ·exact .inr (.inl (code_out h))
 ·cases hd:D.dead with
  | true=>exact .inr (.inr (code_dead h hd))
  | false=>
   have h':0≤n∧n < (D.S.length:Int):=by omega
   exact .inl ⟨n.toNat,by omega,by omega,rfl,code_ok h hd⟩
theorem asked_code {H:Heap} {b:Bk} {y:Lay} {D:Dev} (h:DevAt H b y D) (hS:D.S≠[]) (n:Int) (lf m:Nat):ret (callS Tryd.prog S0 lf (m+2) 69 [.ptr (some ⟨b,0⟩),.int .i64 n] H) fun v H'=>v=.int .i64 (code D n)∧H'=H:=by
 by_cases hout:n < 0∨(D.S.length:Int)≤n
 ·rw[code_out hout]
  have h0:=load0 h
  refine ret_call rfl c69_eq ?_
  obtain⟨v,H1,e,rfl,rfl⟩:=none_ret h hS lf m
  by_cases hlt:n < 0
  ·simp only[c69,e,h0,hlt,sy,tup,↓reduceIte,zA,zG,zC,zD,zF,zE,zB,zH,reduceCtorEq]
   simp
  ·have hge:(D.S.length:Int)≤n:=by omega
   simp only[c69,e,h0,hlt,hge,sy,tup,↓reduceIte,zA,zG,zC,zD,zF,zE,zB,zH,reduceCtorEq]
   simp
 ·cases hd:D.dead with
  | false=>
   rw[code_ok hout hd]
   obtain⟨k,rfl⟩:∃ k:Nat,n=(k:Int):=⟨n.toNat,by omega⟩
   exact asked_ok h (by omega) hd lf m
  | true=>
   rw[code_dead hout hd]
   have h0:=load0 h
   have h2:=load2 h
   have hlt:¬ (n < 0):=by omega
   have hge:¬ ((D.S.length:Int)≤n):=by omega
   refine ret_call rfl c69_eq ?_
   obtain⟨v,H1,e,rfl,rfl⟩:=none_ret h hS lf m
   simp only[c69,e,h0,h2,hd,hlt,hge,sy,tup,↓reduceIte,zA,zG,zC,zD,zF,zE,zB,zH,reduceCtorEq]
   simp
theorem Next.idle {H H':Heap} {b:Bk} {y:Lay} {D:Dev} (h:DevAt H b y D) (k:Turns Z H H'):Next H b y D H' y D:=
 ⟨h.turns k id id (fun _=>id),k.wide (fun c hc=>hc.elim),rfl,fun e=>.inl ⟨e,rfl⟩⟩
def Dev.write (D:Dev) (n:Int) (B:Nat):Dev:=if code D n=0 then { D with L:=D.L++[(n.toNat,B)] } else D
noncomputable def Dev.read (D:Dev) (n:Int):Nat:=if code D n=0 then readN D n.toNat else 0
def Dev.sure (D:Dev) (n:Int):Nat:=if code D n=0 then D.S.getD n.toNat 0 else 0
def Dev.flush (D:Dev):Dev:=if D.dead=true then D else { D with S:=flushS D.S D.L,L:=[] }
def fcode (D:Dev):Int:=if D.dead=true then 9 else 0
def rcode (D:Dev) (n j:Int):Int:=if code D n=2∨j < 0∨64≤j then 2 else code D n
noncomputable def Dev.rot (D:Dev) (n j:Int) (by':Nat):Dev:=if rcode D n j=0 then { D with S:=D.S.set n.toNat (rotN (D.S.getD n.toNat 0) j.toNat by') } else D
def Dev.crash (D:Dev) (P:List Int):Dev:={ D with S:=crashS D.S (D.L.zip P),L:=[] }
theorem write_all {H:Heap} {b:Bk} {y:Lay} {D:Dev} (h:DevAt H b y D) (hS:D.S≠[]) (hmax:D.L.length < 1000000) (n:Int) (B:Nat) (lf m:Nat) :
  ret (callS Tryd.prog S0 lf (m+3) 83 [.ptr (some ⟨b,0⟩),.int .i64 n,.blk B] H) fun v H'=>v=.int .i64 (code D n)∧∃ y',Next H b y D H' y' (D.write n B):=by
 have err:∀ z:Int,z=2∨z=9→code D n=z→ret (callS Tryd.prog S0 lf (m+3) 83 [.ptr (some ⟨b,0⟩),.int .i64 n,.blk B] H) fun v H'=>v=.int .i64 (code D n)∧∃ y',Next H b y D H' y' (D.write n B):=by
  intro z hz hc
  have hw:D.write n B=D:=if_neg (by rw[hc];omega)
  have t1:=Turns.add Z H (.rows false 64 [[.blk B]])
  have h':=h.turns t1 id id (fun _=>id)
  have hz0:(z==0)=false:=by simp;omega
  refine ret_call rfl c83_eq ?_
  obtain⟨v,H1,e,rfl,e1⟩:=asked_code h' hS n lf m
  subst e1
  rw[hc] at e
  simp only[c83,e,hz0,sy,tup,↓reduceIte,zA,zG,zC,zD,zF,zE,zB,zH,reduceCtorEq]
  rw[hw,hc]
  exact⟨trivial,.inr trivial,_,rfl,rfl,y,Next.idle h t1⟩
 rcases code_cases D n with ⟨k,rfl,hk,hd,hc⟩ | hc | hc
 ·rw[hc]
  have hw:D.write (k:Int) B={ D with L:=D.L++[(k,B)] }:=if_pos hc
  rw[hw]
  exact write_ok h hk hd hmax B lf m
 ·exact err 2 (.inl rfl) hc
 ·exact err 9 (.inr rfl) hc
theorem read_all {H:Heap} {b:Bk} {y:Lay} {D:Dev} (h:DevAt H b y D) (hS:D.S≠[]) {lf:Nat} (hlf:D.L.length+1 < lf) (hmax:D.L.length < 1000000) (n:Int) (m:Nat) :
  ret (callS Tryd.prog S0 lf (m+3) 71 [.ptr (some ⟨b,0⟩),.int .i64 n] H) fun v H'=>v=.tuple [.blk (D.read n),.int .i64 (code D n)]∧Turns Z H H':=by
 have err:∀ z:Int,z=2∨z=9→code D n=z→ret (callS Tryd.prog S0 lf (m+3) 71 [.ptr (some ⟨b,0⟩),.int .i64 n] H) fun v H'=>v=.tuple [.blk (D.read n),.int .i64 (code D n)]∧Turns Z H H':=by
  intro z hz hc
  have hw:D.read n=0:=if_neg (by rw[hc];omega)
  have t1:=Turns.add Z H (.rows false 64 [[.blk 0]])
  have h':=h.turns t1 id id (fun _=>id)
  have hz0:(z==0)=false:=by simp;omega
  refine ret_call rfl c71_eq ?_
  obtain⟨v,H1,e,rfl,e1⟩:=asked_code h' hS n lf m
  subst e1
  rw[hc] at e
  simp only[c71,e,hz0,sy,tup,↓reduceIte,zA,zG,zC,zD,zF,zE,zB,zH,reduceCtorEq]
  rw[hw,hc]
  exact⟨trivial,.inr trivial,_,rfl,rfl,t1.setnew (Nat.le_refl _) _⟩
 rcases code_cases D n with ⟨k,rfl,hk,hd,hc⟩ | hc | hc
 ·have hw:D.read (k:Int)=readN D k:=if_pos hc
  rw[hc,hw]
  exact read_ok h hk hd hlf hmax m
 ·exact err 2 (.inl rfl) hc
 ·exact err 9 (.inr rfl) hc
theorem flush_all {H:Heap} {b:Bk} {y:Lay} {D:Dev} (h:DevAt H b y D) (hS:D.S≠[]) (hok:∀ w ∈ D.L,w.1 < D.S.length) (hmax:D.L.length < 1000000) {lf:Nat} (hlf:D.L.length+1 < lf) (m:Nat) :
  ret (callS Tryd.prog S0 lf (m+3) 86 [.ptr (some ⟨b,0⟩)] H) fun v H'=>v=.int .i64 (fcode D)∧∃ y',Next H b y D H' y' D.flush:=by
 have hpos:0 < D.S.length:=by cases hc:D.S with
  | nil=>exact absurd hc hS
  | cons a l=>simp
 cases hd:D.dead with
 | false=>
  have e1:fcode D=0:=by unfold fcode;rw[hd];rfl
  have e2:D.flush={ D with S:=flushS D.S D.L,L:=[] }:=by unfold Dev.flush;rw[hd];rfl
  rw[e1,e2]
  exact(flush_ok h hS hd hok hmax hlf m).mono (fun v H' hv=>⟨hv.1,_,hv.2⟩)
 | true=>
  have e1:fcode D=9:=by unfold fcode;rw[hd];rfl
  have e2:D.flush=D:=by unfold Dev.flush;rw[hd];rfl
  have hc:code D 0=9:=code_dead (by omega) hd
  rw[e1,e2]
  refine ret_call rfl c86_eq ?_
  obtain⟨v,H1,e,rfl,e3⟩:=asked_code h hS 0 lf m
  subst e3
  rw[hc] at e
  simp only[c86,e,sy,tup,↓reduceIte,zA,zG,zC,zD,zF,zE,zB,zH,reduceCtorEq]
  exact⟨trivial,.inr trivial,_,rfl,rfl,y,Next.idle h (Turns.refl _ _)⟩
theorem rot_all {H:Heap} {b:Bk} {y:Lay} {D:Dev} (h:DevAt H b y D) (hS:D.S≠[]) (n j:Int) {by':Nat} (hb:by' < 256) (lf m:Nat) :
  ret (callS Tryd.prog S0 lf (m+3) 41 [.ptr (some ⟨b,0⟩),.int .i64 n,.int .i64 j,.int .u8 (by':Int)] H) fun v H'=>v=.int .i64 (rcode D n j)∧∃ y',Next H b y D H' y' (D.rot n j by'):=by
 by_cases hj:j < 0∨64≤j
 ·have e1:rcode D n j=2:=if_pos (.inr hj)
  have e2:D.rot n j by'=D:=if_neg (by rw[e1];decide)
  rw[e1,e2]
  have hc:code D n=0∨code D n=2∨code D n=9:=by
   rcases code_cases D n with ⟨_,_,_,_,hc⟩ | hc | hc
   ·exact .inl hc
   ·exact .inr (.inl hc)
   ·exact .inr (.inr hc)
  have key:∀ z:Int,z=0∨z=2∨z=9→code D n=z→ret (callS Tryd.prog S0 lf (m+3) 41 [.ptr (some ⟨b,0⟩),.int .i64 n,.int .i64 j,.int .u8 (by':Int)] H) fun v H'=>v=.int .i64 2∧∃ y',Next H b y D H' y' D:=by
   intro z hz hc
   have z1:(z==1)=false:=by simp;omega
   refine ret_call rfl c41_eq ?_
   obtain⟨v,H1,e,rfl,e3⟩:=asked_code h hS n lf m
   subst e3
   rw[hc] at e
   rcases hz with rfl | rfl | rfl
   ·by_cases hj0:j < 0
    ·simp only[c41,e,hj0,sy,tup,↓reduceIte,zA,zG,zC,zD,zF,zE,zB,zH,reduceCtorEq]
     exact⟨trivial,.inr trivial,_,rfl,rfl,y,Next.idle h (Turns.refl _ _)⟩
    ·have hj1:(64:Int)≤j:=by omega
     simp only[c41,e,hj0,hj1,sy,tup,↓reduceIte,zA,zG,zC,zD,zF,zE,zB,zH,reduceCtorEq]
     exact⟨trivial,.inr trivial,_,rfl,rfl,y,Next.idle h (Turns.refl _ _)⟩
   ·simp only[c41,e,sy,tup,↓reduceIte,zA,zG,zC,zD,zF,zE,zB,zH,reduceCtorEq]
    exact⟨trivial,.inr trivial,_,rfl,rfl,y,Next.idle h (Turns.refl _ _)⟩
   ·by_cases hj0:j < 0
    ·simp only[c41,e,hj0,sy,tup,↓reduceIte,zA,zG,zC,zD,zF,zE,zB,zH,reduceCtorEq]
     exact⟨trivial,.inr trivial,_,rfl,rfl,y,Next.idle h (Turns.refl _ _)⟩
    ·have hj1:(64:Int)≤j:=by omega
     simp only[c41,e,hj0,hj1,sy,tup,↓reduceIte,zA,zG,zC,zD,zF,zE,zB,zH,reduceCtorEq]
     exact⟨trivial,.inr trivial,_,rfl,rfl,y,Next.idle h (Turns.refl _ _)⟩
  exact key _ hc rfl
 ·obtain⟨q,rfl⟩:∃ q:Nat,j=(q:Int):=⟨j.toNat,by omega⟩
  have hq:q < 64:=by omega
  rcases code_cases D n with ⟨k,rfl,hk,hd,hc⟩ | hc | hc
  ·have e1:rcode D (k:Int) (q:Int)=0:=by unfold rcode;rw[if_neg (by rw[hc];omega),hc]
   have e2:D.rot (k:Int) (q:Int) by'={ D with S:=D.S.set k (rotN D.S[k] q by') }:=by
    unfold Dev.rot;rw[if_pos e1,Int.toNat_natCast,Int.toNat_natCast,getD_lt hk]
   rw[e1,e2]
   exact(rot_ok h hk hd hq hb lf m).mono (fun v H' hv=>⟨hv.1,_,hv.2⟩)
  ·have e1:rcode D n (q:Int)=2:=if_pos (.inl hc)
   have e2:D.rot n (q:Int) by'=D:=if_neg (by rw[e1];decide)
   rw[e1,e2]
   refine ret_call rfl c41_eq ?_
   obtain⟨v,H1,e,rfl,e3⟩:=asked_code h hS n lf m
   subst e3
   rw[hc] at e
   simp only[c41,e,sy,tup,↓reduceIte,zA,zG,zC,zD,zF,zE,zB,zH,reduceCtorEq]
   exact⟨trivial,.inr trivial,_,rfl,rfl,y,Next.idle h (Turns.refl _ _)⟩
  ·have e1:rcode D n (q:Int)=9:=by unfold rcode;rw[if_neg (by rw[hc];omega),hc]
   have e2:D.rot n (q:Int) by'=D:=if_neg (by rw[e1];decide)
   rw[e1,e2]
   have g1:¬ ((q:Int) < 0):=by omega
   have g2:¬ ((64:Int)≤(q:Int)):=by omega
   refine ret_call rfl c41_eq ?_
   obtain⟨v,H1,e,rfl,e3⟩:=asked_code h hS n lf m
   subst e3
   rw[hc] at e
   simp only[c41,e,g1,g2,sy,tup,↓reduceIte,zA,zG,zC,zD,zF,zE,zB,zH,reduceCtorEq]
   exact⟨trivial,.inr trivial,_,rfl,rfl,y,Next.idle h (Turns.refl _ _)⟩
theorem DevAt.kill {H:Heap} {b:Bk} {y:Lay} {D:Dev} (h:DevAt H b y D) (x:Bool):DevAt (H.set b (.rows false 3 [[.slice (some ⟨y.s,0⟩) D.S.length D.S.length y.so,.slice y.p D.L.length D.L.length y.o,.bool x]])) b y { D with dead:=x }:=by
 refine⟨?_,?_,h.nil,fun e=>⟨(h.loose e).1,(h.loose e).2.1,?_⟩,?_,h.ne⟩
 ·rw[Heap.get_set,if_pos rfl]
 ·rw[Heap.get_set,if_neg (Ne.symm h.ne.1)];exact h.sure
 ·rw[Heap.get_set,if_neg (Ne.symm (h.ne.2 e).1)];exact(h.loose e).2.2
 ·simpa using h.old
theorem sectors_ok {H:Heap} {b:Bk} {y:Lay} {D:Dev} (h:DevAt H b y D) (hS:D.S≠[]) (lf m:Nat):ret (callS Tryd.prog S0 lf (m+2) 76 [.ptr (some ⟨b,0⟩)] H) fun v H'=>v=.int .i64 (D.S.length:Int)∧H'=H:=by
 have l0:=load0 h
 refine ret_call rfl c76_eq ?_
 obtain⟨v,H1,e,rfl,rfl⟩:=none_ret h hS lf m
 simp only[c76,e,l0,sy,tup,↓reduceIte,zA,zG,zC,zD,zF,zE,zB,zH,reduceCtorEq]
 simp
end Go.Proofs.YtabebpemfinejaaDoor.disk
namespace Go.Proofs.YtabebpemfinejaaDoor.disk
open Go.Am
noncomputable def c45:CFn:=⟨[.tmp (pp 2)],
 .seq (.reg [
 qo 2 (.p (S.get (.c (.bool false)))) []]) (
 .seq (.reg [
 mv 3 0,
 qo 4 (.r (eqnF false .ptr (tt 3) (.c (.ptr none)))) [pp 3],
 mv 5 4,
 mg 6 0 5 false,
 qg 7 (.p (nilcF (tt 6))) 5 false [pp 6],
 qg 8 (.p (faddrF (tt 7) 0)) 5 false [pp 7],
 qg 9 (.r (loadF (tt 8) 1 .sc)) 5 false [pp 8],
 qg 10 (.p (lenF (tt 9))) 5 false [pp 9],
 qg 11 (.p (eqcF false false [.int .i64] (tt 10) (ii 0))) 5 false [pp 10],
 qo 12 (.p (pickF (tt 5) (.c (.bool true)) (tt 11))) [pp 5,pp 11],
 mv 2 12]) (
 .ret))⟩
theorem c45_eq:fnOf Tryd.prog 45=some c45:=by kernel_rfl
noncomputable def c68:CFn:=⟨[.tmp (pp 4)],
 .seq (.reg [
 qo 4 (.p (S.get (.c (.bool false)))) []]) (
 .seq (.reg [
 mv 5 1,
 qo 6 (.p (arF .geq (tt 5) (ii 0))) [pp 5],
 mv 7 6,
 mg 8 1 7 true,
 mg 9 0 7 true,
 qg 10 (.p (nilcF (tt 9))) 7 true [pp 9],
 qg 11 (.p (faddrF (tt 10) 0)) 7 true [pp 10],
 qg 12 (.r (loadF (tt 11) 1 .sc)) 7 true [pp 11],
 qg 13 (.p (lenF (tt 12))) 7 true [pp 12],
 qg 14 (.p (arF .lss (tt 8) (tt 13))) 7 true [pp 8,pp 13],
 qo 15 (.p (pickF (tt 7) (tt 14) (.c (.bool false)))) [pp 7,pp 14],
 mv 4 15]) (
 .ret))⟩
theorem c68_eq:fnOf Tryd.prog 68=some c68:=by kernel_rfl
noncomputable def c40:CFn:=⟨[.tmp (pp 4)],
 .seq (.reg [
 qo 4 (.p (S.get (ii 0))) []]) (
 .seq (.block 0 (.seq (.reg [
 mv 6 0,
 qo 7 (.c (callF (ff 45) [(tt 6)])) [pp 6],
 mv 5 7]) (
 .cond (tt 5) (.seq (.reg [
 qo 4 (.p (S.get (ii 1))) []]) (
 .ret)) (.seq (.reg [
 mv 9 0,
 mv 10 1,
 qo 11 (.c (callF (ff 68) [(tt 9),(tt 10)])) [pp 9,pp 10],
 qo 12 (.p (unF .not (tt 11))) [pp 11],
 mv 8 12]) (
 .cond (tt 8) (.seq (.reg [
 qo 4 (.p (S.get (ii 2))) []]) (
 .ret)) (.skip)))))) (
 .seq (.reg [
 qo 4 (.p (S.get (ii 0))) []]) (
 .ret)))⟩
theorem c40_eq:fnOf Tryd.prog 40=some c40:=by kernel_rfl
noncomputable def c70:CFn:=⟨[.tmp (pp 4)],
 .seq (.reg [
 qo 4 (.p (S.get (ii 0))) []]) (
 .seq (.seq (.reg [
 mv 5 0,
 qo 6 (.c (callF (ff 45) [(tt 5)])) [pp 5],
 qo 7 (.p (unF .not (tt 6))) [pp 6],
 mv 8 7,
 mg 9 0 8 true,
 qg 10 (.p (nilcF (tt 9))) 8 true [pp 9],
 qg 11 (.p (faddrF (tt 10) 3)) 8 true [pp 10],
 qg 12 (.r (loadF (tt 11) 1 .sc)) 8 true [pp 11],
 qo 13 (.p (pickF (tt 8) (tt 12) (.c (.bool false)))) [pp 8,pp 12]]) (
 .cond (tt 13) (.seq (.reg [
 qo 4 (.p (S.get (ii 8))) []]) (
 .ret)) (.skip))) (
 .seq (.reg [
 mv 14 0,
 mv 15 1,
 qo 16 (.c (callF (ff 40) [(tt 14),(tt 15)])) [pp 14,pp 15],
 mv 4 16]) (
 .ret)))⟩
theorem c70_eq:fnOf Tryd.prog 70=some c70:=by kernel_rfl
noncomputable def c43:CFn:=⟨[.cell (pp 6) 64 .bk,.tmp (pp 7)],
 .seq (.reg [
 qo 6 (.m (allocF 64 [.blk 0])) [],
 qo 7 (.p (S.get (ii 0))) []]) (
 .seq (.seq (.reg [
 mv 9 0,
 mv 10 1,
 qo 11 (.c (callF (ff 70) [(tt 9),(tt 10)])) [pp 9,pp 10],
 mv 8 11]) (
 .seq (.reg [
 mv 12 8,
 qo 13 (.p (eqcF true false [.int .i64] (tt 12) (ii 0))) [pp 12]]) (
 .cond (tt 13) (.seq (.reg [
 qo 14 (.p (buildF [.blk 0] .bk [])) [],
 mv 15 8,
 qn (.a (storeF (tt 6) (tt 14) 64)) [pp 6,pp 14],
 mv 7 15]) (
 .ret)) (.skip)))) (
 .seq (.reg [
 mv 16 0,
 qo 17 (.p (nilcF (tt 16))) [pp 16],
 qo 18 (.p (faddrF (tt 17) 0)) [pp 17],
 qo 19 (.r (loadF (tt 18) 1 .sc)) [pp 18],
 mv 20 1,
 qo 21 (.p (iaddrSF (tt 19) (tt 20) 1)) [pp 19,pp 20],
 qo 22 (.r (loadF (tt 21) 1 .sc)) [pp 21],
 mv 23 2,
 qo 24 (.c (callF (ff 71) [(tt 22),(tt 23)])) [pp 22,pp 23],
 qo 25 (.p (extF (tt 24) 0)) [pp 24],
 qo 26 (.p (extF (tt 24) 1)) [pp 24],
 qn (.a (storeF (tt 6) (tt 25) 64)) [pp 6,pp 25],
 mv 7 26]) (
 .ret)))⟩
theorem c43_eq:fnOf Tryd.prog 43=some c43:=by kernel_rfl
noncomputable def c81:CFn:=⟨[.tmp (pp 4)],
 .seq (.reg [
 qo 4 (.p (S.get (ii 0))) []]) (
 .seq (.seq (.reg [
 mv 5 0,
 qo 6 (.p (nilcF (tt 5))) [pp 5],
 qo 7 (.p (faddrF (tt 6) 2)) [pp 6],
 qo 8 (.r (loadF (tt 7) 1 .sc)) [pp 7]]) (
 .block 0 (.seq (.reg [
 qo 17 (.p (eqcF false false [.int .i64] (tt 8) (ii 0))) [pp 8],
 mv 16 17]) (
 .cond (tt 16) (.skip) (.seq (.reg [
 qo 19 (.p (eqcF false false [.int .i64] (tt 8) (ii 1))) [pp 8],
 mv 18 19]) (
 .cond (tt 18) (.seq (.reg [
 mv 20 0,
 qo 21 (.p (nilcF (tt 20))) [pp 20],
 qo 22 (.p (faddrF (tt 21) 3)) [pp 21],
 qn (.a (storeF (tt 22) (.c (.bool true)) 1)) [pp 22]]) (
 .seq (.reg [
 qo 4 (.p (S.get (ii 8))) []]) (
 .ret))) (.reg [
 mv 9 0,
 qo 10 (.p (nilcF (tt 9))) [pp 9],
 qo 11 (.p (faddrF (tt 10) 2)) [pp 10],
 qo 12 (.r (loadF (tt 11) 1 .sc)) [pp 11],
 qo 13 (.p (arF .sub (tt 12) (ii 1))) [pp 12],
 qo 14 (.p (nilcF (tt 9))) [pp 9],
 qo 15 (.p (faddrF (tt 14) 2)) [pp 14],
 qn (.a (storeF (tt 15) (tt 13) 1)) [pp 15,pp 13]]))))))) (
 .seq (.reg [
 mv 23 0,
 qo 24 (.p (nilcF (tt 23))) [pp 23],
 qo 25 (.p (faddrF (tt 24) 1)) [pp 24],
 qo 26 (.r (loadF (tt 25) 1 .sc)) [pp 25],
 qo 27 (.p (arF .add (tt 26) (ii 1))) [pp 26],
 qo 28 (.p (nilcF (tt 23))) [pp 23],
 qo 29 (.p (faddrF (tt 28) 1)) [pp 28],
 qn (.a (storeF (tt 29) (tt 27) 1)) [pp 29,pp 27]]) (
 .seq (.reg [
 mv 30 1,
 qo 31 (.c (callF (tt 30) [])) [pp 30],
 mv 4 31]) (
 .ret))))⟩
theorem c81_eq:fnOf Tryd.prog 81=some c81:=by kernel_rfl
noncomputable def c82:CFn:=⟨[.tmp (pp 4)],
 .seq (.reg [
 qo 4 (.p (S.get (ii 0))) []]) (
 .seq (.regD [
 qo 5 (.r (loadF (tt 0) 1 .sc)) [pp 0],
 qo 6 (.p (nilcF (tt 5))) [pp 5],
 qo 7 (.p (faddrF (tt 6) 0)) [pp 6],
 qo 8 (.r (loadF (tt 7) 1 .sc)) [pp 7],
 qo 9 (.r (loadF (tt 1) 1 .sc)) [pp 1],
 qo 10 (.p (iaddrSF (tt 8) (tt 9) 1)) [pp 8,pp 9],
 qo 11 (.r (loadF (tt 10) 1 .sc)) [pp 10],
 qo 12 (.r (loadF (tt 2) 1 .sc)) [pp 2],
 qo 13 (.r (loadF (tt 3) 64 .bk)) [pp 3],
 qo 14 (.c (callF (ff 83) [(tt 11),(tt 12),(tt 13)])) [pp 11,pp 12,pp 13],
 mv 4 14] [0,1,3,7,0,31,63,0,0,511,1023]) (
 .ret))⟩
theorem c82_eq:fnOf Tryd.prog 82=some c82:=by kernel_rfl
noncomputable def c61:CFn:=⟨[.tmp (pp 8)],
 .seq (.reg [
 qo 4 (.m (boxF 1 (tt 0))) [pp 0],
 qo 5 (.m (boxF 1 (tt 1))) [pp 1],
 qo 6 (.m (boxF 1 (tt 2))) [pp 2],
 qo 7 (.m (boxF 64 (tt 3))) [pp 3],
 qo 8 (.p (S.get (ii 0))) []]) (
 .seq (.seq (.reg [
 qo 12 (.r (loadF (tt 4) 1 .sc)) [pp 4],
 qo 13 (.r (loadF (tt 5) 1 .sc)) [pp 5],
 qo 14 (.r (loadF (tt 6) 1 .sc)) [pp 6],
 qo 15 (.c (callF (ff 43) [(tt 12),(tt 13),(tt 14)])) [pp 12,pp 13,pp 14],
 mv 11 15,
 qo 16 (.p (extF (tt 11) 0)) [pp 11],
 qo 17 (.p (extF (tt 11) 1)) [pp 11],
 qo 9 (.m (allocF 64 [.blk 0])) [],
 qn (.a (storeF (tt 9) (tt 16) 64)) [pp 9,pp 16],
 mv 10 17]) (
 .seq (.reg [
 mv 18 10,
 qo 19 (.p (eqcF true false [.int .i64] (tt 18) (ii 0))) [pp 18]]) (
 .cond (tt 19) (.seq (.reg [
 mv 20 10,
 mv 8 20]) (
 .ret)) (.skip)))) (
 .seq (.reg [
 qo 21 (.r (loadF (tt 4) 1 .sc)) [pp 4],
 qo 22 (.p (mkfnF (.func 82) [] [(tt 4),(tt 5),(tt 6),(tt 7)])) [pp 4,pp 5,pp 6,pp 7],
 qo 23 (.c (callF (ff 81) [(tt 21),(tt 22)])) [pp 21,pp 22],
 mv 8 23]) (
 .ret)))⟩
theorem c61_eq:fnOf Tryd.prog 61=some c61:=by kernel_rfl
noncomputable def c66:CFn:=⟨[.tmp (pp 4)],
 .seq (.reg [
 qo 4 (.p (S.get (ii 0))) []]) (
 .seq (.seq (.reg [
 mv 8 0,
 mv 9 1,
 qo 10 (.c (callF (ff 43) [(tt 8),(tt 9),(ii 0)])) [pp 8,pp 9],
 mv 7 10,
 qo 11 (.p (extF (tt 7) 0)) [pp 7],
 qo 12 (.p (extF (tt 7) 1)) [pp 7],
 qo 5 (.m (allocF 64 [.blk 0])) [],
 qn (.a (storeF (tt 5) (tt 11) 64)) [pp 5,pp 11],
 mv 6 12]) (
 .seq (.reg [
 mv 13 6,
 qo 14 (.p (eqcF true false [.int .i64] (tt 13) (ii 0))) [pp 13]]) (
 .cond (tt 14) (.seq (.reg [
 mv 15 6,
 mv 4 15]) (
 .ret)) (.skip)))) (
 .seq (.reg [
 mv 16 0,
 mv 17 0,
 qo 18 (.p (nilcF (tt 17))) [pp 17],
 qo 19 (.p (faddrF (tt 18) 0)) [pp 18],
 qo 20 (.r (loadF (tt 19) 1 .sc)) [pp 19],
 mv 21 1,
 qo 22 (.p (iaddrSF (tt 20) (tt 21) 1)) [pp 20,pp 21],
 qo 23 (.r (loadF (tt 22) 1 .sc)) [pp 22],
 qo 24 (.p (mkfnF (.func 86) [(tt 23)] [])) [pp 23],
 qo 25 (.c (callF (ff 81) [(tt 16),(tt 24)])) [pp 16,pp 24],
 mv 4 25]) (
 .ret)))⟩
theorem c66_eq:fnOf Tryd.prog 66=some c66:=by kernel_rfl
noncomputable def c18:CFn:=⟨[.tmp (pp 4)],
 .seq (.reg [
 qo 4 (.p (S.get (ii 0))) []]) (
 .seq (.block 0 (.seq (.reg [
 mv 6 0,
 qo 7 (.c (callF (ff 45) [(tt 6)])) [pp 6],
 mv 5 7]) (
 .cond (tt 5) (.seq (.reg [
 qo 4 (.p (S.get (ii 1))) []]) (
 .ret)) (.seq (.reg [
 mv 9 0,
 qo 10 (.p (nilcF (tt 9))) [pp 9],
 qo 11 (.p (faddrF (tt 10) 3)) [pp 10],
 qo 12 (.r (loadF (tt 11) 1 .sc)) [pp 11],
 mv 8 12]) (
 .cond (tt 8) (.seq (.reg [
 qo 4 (.p (S.get (ii 8))) []]) (
 .ret)) (.seq (.reg [
 mv 14 1,
 qo 15 (.p (arF .lss (tt 14) (ii 0))) [pp 14],
 mv 13 15]) (
 .cond (tt 13) (.seq (.reg [
 qo 4 (.p (S.get (ii 2))) []]) (
 .ret)) (.skip)))))))) (
 .seq (.reg [
 mv 16 0,
 mv 17 1,
 qo 18 (.p (nilcF (tt 16))) [pp 16],
 qo 19 (.p (faddrF (tt 18) 2)) [pp 18],
 qn (.a (storeF (tt 19) (tt 17) 1)) [pp 19,pp 17]]) (
 .seq (.reg [
 qo 4 (.p (S.get (ii 0))) []]) (
 .ret))))⟩
theorem c18_eq:fnOf Tryd.prog 18=some c18:=by kernel_rfl
noncomputable def c19:CFn:=⟨[.tmp (pp 2)],
 .seq (.reg [
 qo 2 (.p (S.get (.c (.bool false)))) []]) (
 .seq (.reg [
 mv 3 0,
 qo 4 (.c (callF (ff 45) [(tt 3)])) [pp 3],
 qo 5 (.p (unF .not (tt 4))) [pp 4],
 mv 6 5,
 mg 7 0 6 true,
 qg 8 (.p (nilcF (tt 7))) 6 true [pp 7],
 qg 9 (.p (faddrF (tt 8) 3)) 6 true [pp 8],
 qg 10 (.r (loadF (tt 9) 1 .sc)) 6 true [pp 9],
 qo 11 (.p (pickF (tt 6) (tt 10) (.c (.bool false)))) [pp 6,pp 10],
 mv 2 11]) (
 .ret))⟩
theorem c19_eq:fnOf Tryd.prog 19=some c19:=by kernel_rfl
structure Dv where
 b:Bk
 y:Lay
 D:Dev
def Dv.foot (x:Dv):Bk→Prop:=Foot x.b x.y x.D
structure DvsAt (H:Heap) (b ds:Bk) (so:Nat) (l:List Dv) (r1 r2 r3:V):Prop where
 own:H.get b=some (.rows false 4 [[.slice (some ⟨ds,0⟩) l.length l.length so,r1,r2,r3]])
 ptrs:H.get ds=some (.rows false 1 (l.map fun x=>[.ptr (some ⟨x.b,0⟩)]))
 dev:∀ i (h:i < l.length),DevAt H l[i].b l[i].y l[i].D
 sep:∀ i j (hi:i < l.length) (hj:j < l.length),i≠j→Sep l[i].b l[i].y l[i].D l[j].b l[j].y l[j].D
 old:H.Old b∧H.Old ds
 ne:b≠ds
 out:∀ i (h:i < l.length),¬ l[i].foot b∧¬ l[i].foot ds
theorem DvsAt.turns {H H':Heap} {b ds:Bk} {so:Nat} {l:List Dv} {r1 r2 r3:V} (h:DvsAt H b ds so l r1 r2 r3) (k:Turns Z H H'):DvsAt H' b ds so l r1 r2 r3:=
 ⟨(k.same _ h.old.1 id).trans h.own,(k.same _ h.old.2 id).trans h.ptrs,fun i hi=>(h.dev i hi).turns k id id (fun _=>id),h.sep,⟨h.old.1.mono k.next,h.old.2.mono k.next⟩,h.ne,h.out⟩
theorem DvsAt.step {H H':Heap} {b ds:Bk} {so:Nat} {l:List Dv} {r1 r2 r3:V} (h:DvsAt H b ds so l r1 r2 r3) {i:Nat} (hi:i < l.length) {y':Lay} {D':Dev} (k:Next H l[i].b l[i].y l[i].D H' y' D'):DvsAt H' b ds so (l.set i ⟨l[i].b,y',D'⟩) r1 r2 r3:=by
 have hb:=(h.out i hi).1
 have hd:=(h.out i hi).2
 have hnew:∀ c,Foot l[i].b y' D' c→l[i].foot c∨¬ H.Old c:=by
  rintro c (rfl | rfl | ⟨hl,rfl⟩)
  ·exact .inl (.inl rfl)
  ·exact .inl (.inr (.inl k.s))
  ·rcases k.l hl with ⟨h1,h2⟩ | h1
   ·exact .inl (.inr (.inr ⟨h1,h2⟩))
   ·exact .inr h1
 refine⟨?_,?_,fun j hj=>?_,fun p q hp hq hpq=>?_,⟨h.old.1.mono k.turns.next,h.old.2.mono k.turns.next⟩,h.ne,fun j hj=>?_⟩
 ·rw[List.length_set];exact(k.turns.same _ h.old.1 hb).trans h.own
 ·have e:((l.set i ⟨l[i].b,y',D'⟩).map fun x=>[V.ptr (some ⟨x.b,0⟩)])=l.map fun x=>[V.ptr (some ⟨x.b,0⟩)]:=by
   rw[List.map_set]
   apply List.ext_getElem
   ·simp
   ·intro n h1 h2
    rw[List.getElem_set]
    split
    ·rename_i e;subst e;simp
    ·rfl
  rw[e];exact(k.turns.same _ h.old.2 hd).trans h.ptrs
 ·have hj':j < l.length:=by simpa using hj
  by_cases e:i=j
  ·subst e
   rw[List.getElem_set_self]
   exact k.dev
  ·rw[List.getElem_set_ne e]
   exact(h.sep i j hi hj' e).dev (h.dev j hj') k.turns
 ·have hp':p < l.length:=by simpa using hp
  have hq':q < l.length:=by simpa using hq
  by_cases e1:i=p
  ·subst e1
   rw[List.getElem_set_self,List.getElem_set_ne hpq]
   exact(h.sep i q hi hq' hpq).next (h.dev q hq') k
  ·by_cases e2:i=q
   ·subst e2
    rw[List.getElem_set_self,List.getElem_set_ne e1]
    exact((h.sep i p hi hp' e1).next (h.dev p hp') k).symm
   ·rw[List.getElem_set_ne e1,List.getElem_set_ne e2]
    exact h.sep p q hp' hq' hpq
 ·have hj':j < l.length:=by simpa using hj
  by_cases e:i=j
  ·subst e
   rw[List.getElem_set_self]
   refine⟨fun hc=>?_,fun hc=>?_⟩
   ·rcases hnew _ hc with hc | hc
    ·exact hb hc
    ·exact hc h.old.1
   ·rcases hnew _ hc with hc | hc
    ·exact hd hc
    ·exact hc h.old.2
  ·rw[List.getElem_set_ne e]
   exact h.out j hj'
theorem DvsAt.put {H:Heap} {b ds:Bk} {so:Nat} {l:List Dv} {r1 r2 r3:V} (h:DvsAt H b ds so l r1 r2 r3) (r1' r2' r3':V):DvsAt (H.set b (.rows false 4 [[.slice (some ⟨ds,0⟩) l.length l.length so,r1',r2',r3']])) b ds so l r1' r2' r3':=by
 refine⟨?_,?_,fun i hi=>(h.dev i hi).turns (Turns.set (X:=fun c=>c=b) rfl _ _) (fun e=>(h.out i hi).1 (.inl e.symm)) (fun e=>(h.out i hi).1 (.inr (.inl e.symm))) (fun hl e=>(h.out i hi).1 (.inr (.inr ⟨hl,e.symm⟩))),h.sep,by simpa using h.old,h.ne,h.out⟩
 ·rw[Heap.get_set,if_pos rfl]
 ·rw[Heap.get_set,if_neg (Ne.symm h.ne)];exact h.ptrs
abbrev BenchAt (H:Heap) (b ds:Bk) (so:Nat) (l:List Dv) (st ar:Int) (dk:Bool):Prop:=DvsAt H b ds so l (.int .i64 st) (.int .i64 ar) (.bool dk)
theorem BenchAt.put {H:Heap} {b ds:Bk} {so:Nat} {l:List Dv} {st ar:Int} {dk:Bool} (h:BenchAt H b ds so l st ar dk) (st' ar':Int) (dk':Bool):BenchAt (H.set b (.rows false 4 [[.slice (some ⟨ds,0⟩) l.length l.length so,.int .i64 st',.int .i64 ar',.bool dk']])) b ds so l st' ar' dk':=DvsAt.put h _ _ _
section
variable {H:Heap} {b ds:Bk} {so:Nat} {l:List Dv} {st ar:Int} {dk:Bool} (h:BenchAt H b ds so l st ar dk)
include h
theorem bload0:loadAt H ⟨b,0⟩ 1=some [.slice (some ⟨ds,0⟩) l.length l.length so]:=by rw[loadAt_eq h.own (by exact rfl)];rfl
theorem bload1:loadAt H ⟨b,1⟩ 1=some [.int .i64 st]:=by rw[loadAt_eq h.own (by exact rfl)];rfl
theorem bload2:loadAt H ⟨b,2⟩ 1=some [.int .i64 ar]:=by rw[loadAt_eq h.own (by exact rfl)];rfl
theorem bload3:loadAt H ⟨b,3⟩ 1=some [.bool dk]:=by rw[loadAt_eq h.own (by exact rfl)];rfl
theorem bloadP {i:Nat} (hi:i < l.length):loadAt H ⟨ds,i⟩ 1=some [.ptr (some ⟨l[i].b,0⟩)]:=by
 rw[loadAt_eq h.ptrs (r:=[.ptr (some ⟨l[i].b,0⟩)]) (nth_of (by rw[Nat.div_one];simp[hi])),Nat.mod_one]
 exact cut_hit _ _ rfl
theorem bstore1 (x:Int):storeAt H ⟨b,1⟩ [.int .i64 x]=some (H.set b (.rows false 4 [[.slice (some ⟨ds,0⟩) l.length l.length so,.int .i64 x,.int .i64 ar,.bool dk]])):=storeAt_eq h.own (r:=[.slice (some ⟨ds,0⟩) l.length l.length so,.int .i64 st,.int .i64 ar,.bool dk]) rfl rfl
theorem bstore2 (x:Int):storeAt H ⟨b,2⟩ [.int .i64 x]=some (H.set b (.rows false 4 [[.slice (some ⟨ds,0⟩) l.length l.length so,.int .i64 st,.int .i64 x,.bool dk]])):=storeAt_eq h.own (r:=[.slice (some ⟨ds,0⟩) l.length l.length so,.int .i64 st,.int .i64 ar,.bool dk]) rfl rfl
theorem bstore3 (x:Bool):storeAt H ⟨b,3⟩ [.bool x]=some (H.set b (.rows false 4 [[.slice (some ⟨ds,0⟩) l.length l.length so,.int .i64 st,.int .i64 ar,.bool x]])):=storeAt_eq h.own (r:=[.slice (some ⟨ds,0⟩) l.length l.length so,.int .i64 st,.int .i64 ar,.bool dk]) rfl rfl
theorem bnone (hl:l≠[]) (lf m:Nat):callS Tryd.prog S0 lf (m+1) 45 [.ptr (some ⟨b,0⟩)] H=some (.v (.bool false),H):=by
 have l0:=bload0 h
 obtain⟨v,H',e,rfl,rfl⟩:ret (callS Tryd.prog S0 lf (m+1) 45 [.ptr (some ⟨b,0⟩)] H) fun v H'=>v=.bool false∧H'=H:=by
  refine ret_call rfl c45_eq ?_
  simp only[c45,l0,sy,tup,↓reduceIte,zA,zG,zC,zD,zF,zE,zB,zH,reduceCtorEq]
  simp[hl]
 exact e
theorem bhas {i:Nat} (hi:i < l.length) (lf m:Nat):callS Tryd.prog S0 lf (m+1) 68 [.ptr (some ⟨b,0⟩),.int .i64 (i:Int)] H=some (.v (.bool true),H):=by
 have l0:=bload0 h
 have g0:(0:Int)≤(i:Int):=by omega
 obtain⟨v,H',e,rfl,rfl⟩:ret (callS Tryd.prog S0 lf (m+1) 68 [.ptr (some ⟨b,0⟩),.int .i64 (i:Int)] H) fun v H'=>v=.bool true∧H'=H:=by
  refine ret_call rfl c68_eq ?_
  simp only[c68,l0,g0,hi,sy,tup,↓reduceIte,zA,zG,zC,zD,zF,zE,zB,zH,reduceCtorEq]
  simp
 exact e
theorem bthere {i:Nat} (hi:i < l.length) (lf m:Nat):callS Tryd.prog S0 lf (m+2) 40 [.ptr (some ⟨b,0⟩),.int .i64 (i:Int)] H=some (.v (.int .i64 0),H):=by
 have e1:=bnone h (fun e=>by rw[e] at hi;simp at hi) lf m
 have e2:=bhas h hi lf m
 obtain⟨v,H',e,rfl,rfl⟩:ret (callS Tryd.prog S0 lf (m+2) 40 [.ptr (some ⟨b,0⟩),.int .i64 (i:Int)] H) fun v H'=>v=.int .i64 0∧H'=H:=by
  refine ret_call rfl c40_eq ?_
  simp only[c40,e1,e2,sy,tup,↓reduceIte,zA,zG,zC,zD,zF,zE,zB,zH,reduceCtorEq]
  simp
 exact e
theorem blit {i:Nat} (hi:i < l.length) (hd:dk=false) (lf m:Nat):callS Tryd.prog S0 lf (m+3) 70 [.ptr (some ⟨b,0⟩),.int .i64 (i:Int)] H=some (.v (.int .i64 0),H):=by
 subst hd
 have e1:=bnone h (fun e=>by rw[e] at hi;simp at hi) lf (m+1)
 have e2:=bthere h hi lf m
 have l3:=bload3 h
 change callS Tryd.prog S0 lf (m+2) 45 [.ptr (some ⟨b,0⟩)] H=_ at e1
 obtain⟨v,H',e,rfl,rfl⟩:ret (callS Tryd.prog S0 lf (m+3) 70 [.ptr (some ⟨b,0⟩),.int .i64 (i:Int)] H) fun v H'=>v=.int .i64 0∧H'=H:=by
  refine ret_call rfl c70_eq ?_
  simp only[c70,e1,e2,l3,sy,tup,↓reduceIte,zA,zG,zC,zD,zF,zE,zB,zH,reduceCtorEq]
  simp
 exact e
theorem blit_dark (hl:l≠[]) (hd:dk=true) (d:Int) (lf m:Nat):callS Tryd.prog S0 lf (m+3) 70 [.ptr (some ⟨b,0⟩),.int .i64 d] H=some (.v (.int .i64 8),H):=by
 subst hd
 have e1:=bnone h hl lf (m+1)
 have l3:=bload3 h
 change callS Tryd.prog S0 lf (m+2) 45 [.ptr (some ⟨b,0⟩)] H=_ at e1
 obtain⟨v,H',e,rfl,rfl⟩:ret (callS Tryd.prog S0 lf (m+3) 70 [.ptr (some ⟨b,0⟩),.int .i64 d] H) fun v H'=>v=.int .i64 8∧H'=H:=by
  refine ret_call rfl c70_eq ?_
  simp only[c70,e1,l3,sy,tup,↓reduceIte,zA,zG,zC,zD,zF,zE,zB,zH,reduceCtorEq]
  simp
 exact e
theorem bdark (hl:l≠[]) (lf m:Nat):callS Tryd.prog S0 lf (m+2) 19 [.ptr (some ⟨b,0⟩)] H=some (.v (.bool dk),H):=by
 have e1:=bnone h hl lf m
 have l3:=bload3 h
 obtain⟨v,H',e,rfl,rfl⟩:ret (callS Tryd.prog S0 lf (m+2) 19 [.ptr (some ⟨b,0⟩)] H) fun v H'=>v=.bool dk∧H'=H:=by
  refine ret_call rfl c19_eq ?_
  simp only[c19,e1,l3,sy,tup,↓reduceIte,zA,zG,zC,zD,zF,zE,zB,zH,reduceCtorEq]
  simp
 exact e
theorem barm (hl:l≠[]) (hd:dk=false) {x:Int} (hx:0≤x) (lf m:Nat):callS Tryd.prog S0 lf (m+2) 18 [.ptr (some ⟨b,0⟩),.int .i64 x] H=some (.v (.int .i64 0),H.set b (.rows false 4 [[.slice (some ⟨ds,0⟩) l.length l.length so,.int .i64 st,.int .i64 x,.bool dk]])):=by
 subst hd
 have e1:=bnone h hl lf m
 have l3:=bload3 h
 have s2:=bstore2 h x
 have hx':¬ (x < 0):=by omega
 obtain⟨v,H',e,rfl,rfl⟩:ret (callS Tryd.prog S0 lf (m+2) 18 [.ptr (some ⟨b,0⟩),.int .i64 x] H) fun v H'=>v=.int .i64 0∧H'=H.set b (.rows false 4 [[.slice (some ⟨ds,0⟩) l.length l.length so,.int .i64 st,.int .i64 x,.bool false]]):=by
  refine ret_call rfl c18_eq ?_
  simp only[c18,e1,l3,s2,hx',sy,tup,↓reduceIte,zA,zG,zC,zD,zF,zE,zB,zH,reduceCtorEq]
  simp
 exact e
theorem barm_dark (hl:l≠[]) (hd:dk=true) (x:Int) (lf m:Nat):callS Tryd.prog S0 lf (m+2) 18 [.ptr (some ⟨b,0⟩),.int .i64 x] H=some (.v (.int .i64 8),H):=by
 subst hd
 have e1:=bnone h hl lf m
 have l3:=bload3 h
 obtain⟨v,H',e,rfl,rfl⟩:ret (callS Tryd.prog S0 lf (m+2) 18 [.ptr (some ⟨b,0⟩),.int .i64 x] H) fun v H'=>v=.int .i64 8∧H'=H:=by
  refine ret_call rfl c18_eq ?_
  simp only[c18,e1,l3,sy,tup,↓reduceIte,zA,zG,zC,zD,zF,zE,zB,zH,reduceCtorEq]
  simp
 exact e
theorem bread {i:Nat} (hi:i < l.length) (hd:dk=false) (n:Int) {lf:Nat} (hS:l[i].D.S≠[]) (hlf:l[i].D.L.length+1 < lf) (hmax:l[i].D.L.length < 1000000) (m:Nat) :
  ret (callS Tryd.prog S0 lf (m+4) 43 [.ptr (some ⟨b,0⟩),.int .i64 (i:Int),.int .i64 n] H) fun v H'=>v=.tuple [.blk (l[i].D.read n),.int .i64 (code l[i].D n)]∧Turns Z H H':=by
 have t1:=Turns.add Z H (.rows false 64 [[.blk 0]])
 have h':=h.turns t1
 have e1:=blit h' hi hd lf m
 have l0:=bload0 h'
 have lp:=bloadP h' hi
 have hi1:i+1≤l.length:=hi
 obtain⟨v,H1,e2,rfl,t2⟩:=read_all (h'.dev i hi) hS hlf hmax n m
 have g0:H1.get (.run H.next)=some (.rows false 64 [[.blk 0]]):=by
  rw[t2.same _ (by show _ < _;simp) id,Heap.get_add,if_pos rfl]
 have st:=cell_store (v:=l[i].D.read n) g0
 refine ret_call rfl c43_eq ?_
 simp only[c43,e1,l0,lp,hi1,e2,st,Nat.mul_one,sy,tup,↓reduceIte,zA,zG,zC,zD,zF,zE,zB,zH,reduceCtorEq]
 exact⟨trivial,.inr trivial,_,rfl,rfl,(t1.trans t2).setnew (Nat.le_refl _) _⟩
end
end Go.Proofs.YtabebpemfinejaaDoor.disk
