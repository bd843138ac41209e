import GoSem.Dispatch
import Derived.Orders
set_option linter.unusedVariables false
namespace Go.Am
inductive Bk where
 | run (n:Nat)
 | arg (n:Nat)
 deriving DecidableEq
structure Ptr where
 b:Bk
 o:Nat
inductive V where
 | bool (b:Bool)
 | int (k:IntKind) (n:Int)
 | blk (n:Nat)
 | str (s:ByteArray)
 | ptr (p:Option Ptr)
 | slice (p:Option Ptr) (len cap loose:Nat)
 | map (r:Option Bk)
 | func (fn:Fn) (first captured:List V)
 | nilFunc
 | iface (t:TypeId) (v:V)
 | nilIface
 | agg (cs:List V)
 | tuple (vs:List V)
 deriving Inhabited
inductive Obj where
 | rows (ro:Bool) (esz:Nat) (rs:List (List V))
 | map (es:List (V × V × Nat)) (clock:Nat)
 | box (v:V)
 | iter (m:Option Bk) (since:Nat) (seen:List Nat) (last:Nat)
 | dead
 deriving Inhabited
inductive Tr (α:Type) where
 | e
 | n (l:Tr α) (o:Option α) (r:Tr α)
noncomputable section
namespace Tr
variable {α:Type}
def getP (p:List Bool):Tr α→Option α:=
 List.rec (motive:=fun _=>Tr α→Option α) (fun t=>Tr.rec none (fun _ o _ _ _=>o) t)
  (fun b _ ih t=>Tr.rec none (fun l _ r _ _=>Bool.rec (ih r) (ih l) b) t) p
def setP (p:List Bool) (v:α):Tr α→Tr α:=
 List.rec (motive:=fun _=>Tr α→Tr α) (fun t=>Tr.rec (.n .e (some v) .e) (fun l _ r _ _=>.n l (some v) r) t)
  (fun b _ ih t=>Tr.rec (Bool.rec (.n .e none (ih .e)) (.n (ih .e) none .e) b) (fun l o r _ _=>Bool.rec (.n l o (ih r)) (.n (ih l) o r) b) t) p
def pathF (f:Nat):Nat→List Bool:=
 Nat.rec (motive:=fun _=>Nat→List Bool) (fun _=>[])
  (fun _ ih i=>Bool.rec (Bool.rec (false::ih (Nat.sub (Nat.div i 2) 1)) (true::ih (Nat.div i 2)) (Nat.beq (Nat.mod i 2) 1)) [] (Nat.beq i 0)) f
def path (i:Nat):List Bool:=pathF (Nat.succ i) i
end Tr
def nth {α:Type} (l:List α):Nat→Option α:=
 List.rec (motive:=fun _=>Nat→Option α) (fun _=>none) (fun a _ ih i=>Nat.rec (some a) (fun j _=>ih j) i) l
def upd {α:Type} (v:α) (l:List α):Nat→List α:=
 List.rec (motive:=fun _=>Nat→List α) (fun _=>[]) (fun a as ih i=>Nat.rec (v::as) (fun j _=>a::ih j) i) l
abbrev T:=Tr V
def Bk.beq:Bk→Bk→Bool
 | .run a,.run b=>a.beq b
 | .arg a,.arg b=>a.beq b
 | _,_=>false
structure Heap where
 m:Tr Obj
 next:Nat
 a:Nat→Option Obj
 q:List (Option V × Option V):=[]
def Heap.get (H:Heap):Bk→Option Obj
 | .run b=>H.m.getP (Tr.path b)
 | .arg b=>H.a b
def Heap.set (H:Heap) (b:Bk) (o:Obj):Heap:=
 ⟨match b with | .run b=>H.m.setP (Tr.path b) o | .arg _=>H.m,H.next,match b with | .run _=>H.a | .arg b=>fun c=>match c.beq b with | true=>some o | false=>H.a c,H.q⟩
def Heap.add (H:Heap) (o:Obj):Heap:=⟨H.m.setP (Tr.path H.next) o,Nat.add H.next 1,H.a,H.q⟩
def Heap.owe (H:Heap) (q:List (Option V × Option V)):Heap:=⟨H.m,H.next,H.a,q++H.q⟩
def frc {β:Type} (n:Int) (f:Int→β):β:=
 Int.rec (fun m=>Nat.rec (f (.ofNat 0)) (fun k _=>f (.ofNat (Nat.succ k))) m) (fun m=>f (.negSucc m)) n
def eqI:Int→Int→Bool
 | .ofNat a,.ofNat b=>a.beq b
 | .negSucc a,.negSucc b=>a.beq b
 | _,_=>false
def ltI:Int→Int→Bool
 | .ofNat a,.ofNat b=>Nat.ble (Nat.succ a) b
 | .negSucc a,.negSucc b=>Nat.ble (Nat.succ b) a
 | .negSucc _,.ofNat _=>true
 | .ofNat _,.negSucc _=>false
def eqB:Bool→Bool→Bool
 | true,b=>b
 | false,b=>!b
def fitsK:IntKind→Nat→Bool
 | .i64,m=>Nat.ble m 9223372036854775807
 | .u64,m=>Nat.ble m 18446744073709551615
 | .u32,m=>Nat.ble m 4294967295
 | .i32,m=>Nat.ble m 2147483647
 | .u16,m=>Nat.ble m 65535
 | .i16,m=>Nat.ble m 32767
 | .u8,m=>Nat.ble m 255
 | .i8,m=>Nat.ble m 127
def wrapF (k:IntKind):Int→Int
 | .ofNat m=>match fitsK k m with
  | true=>.ofNat m
  | false=>k.wrap (.ofNat m)
 | n=>k.wrap n
def mkI (k:IntKind) (n:Int):Option V:=frc (wrapF k n) fun n=>some (.int k n)
def addI:Int→Int→Int
 | .ofNat a,.ofNat b=>.ofNat (Nat.add a b)
 | a,b=>a+b
def subI:Int→Int→Int
 | .ofNat a,.ofNat b=>match Nat.ble b a with
  | true=>.ofNat (Nat.sub a b)
  | false=>.negSucc (Nat.sub (Nat.sub b a) 1)
 | a,b=>a - b
def mulI:Int→Int→Int
 | .ofNat a,.ofNat b=>.ofNat (Nat.mul a b)
 | a,b=>a*b
def remI:Int→Int→Int
 | .ofNat a,.ofNat b=>.ofNat (Nat.mod a b)
 | a,b=>a.tmod b
def quoI:Int→Int→Int
 | .ofNat a,.ofNat b=>.ofNat (Nat.div a b)
 | a,b=>a.tdiv b
def bitI (f:Nat→Nat→Nat) (g:(w:Nat)→BitVec w→BitVec w→BitVec w) (k:IntKind):Int→Int→Int
 | .ofNat a,.ofNat b=>match fitsK k a&&fitsK k b with
  | true=>.ofNat (f a b)
  | false=>.ofNat (g k.bits (BitVec.ofInt k.bits (.ofNat a)) (BitVec.ofInt k.bits (.ofNat b))).toNat
 | a,b=>.ofNat (g k.bits (BitVec.ofInt k.bits a) (BitVec.ofInt k.bits b)).toNat
def V.asBlk:V→Option Nat
 | .blk B=>some B
 | _=>none
def V.flat:V→Bool
 | .blk _=>false
 | .agg _=>false
 | .tuple _=>false
 | _=>true
def V.cells:V→Option (List V)
 | .agg cs=>some cs
 | .tuple _=>none
 | v=>some [v]
def V.w (v:V):Nat:=
 match v.asBlk with
 | some _=>64
 | none=>1
def byte (B i:Nat):Nat:=Nat.mod (Nat.div B (Nat.pow 256 i)) 256
def setByte (B i x:Nat):Nat:=Nat.add (Nat.add (Nat.mul (Nat.div B (Nat.pow 256 (Nat.succ i))) (Nat.pow 256 (Nat.succ i))) (Nat.mul x (Nat.pow 256 i))) (Nat.mod B (Nat.pow 256 i))
def bytes (B:Nat):(n o:Nat)→List V
 | 0,_=>[]
 | n+1,o=>.int .u8 (.ofNat (byte B o))::bytes B n (Nat.succ o)
def width:List V→Nat
 | []=>0
 | c::cs=>Nat.add c.w (width cs)
def cut:List V→Nat→Nat→Option (List V)
 | [],_,n=>match n.beq 0 with
  | true=>some []
  | false=>none
 | c::cs,o,n=>match n.beq 0 with
  | true=>some []
  | false=>match c.asBlk with
   | some B=>match Nat.ble 64 o with
    | true=>cut cs (Nat.sub o 64) n
    | false=>match o.beq 0&&Nat.ble 64 n with
     | true=>(cut cs 0 (Nat.sub n 64)).map (.blk B::·)
     | false=>(cut cs 0 (Nat.sub n (min n (64 - o)))).map (bytes B (min n (64 - o)) o++·)
   | none=>match o.beq 0 with
    | true=>(cut cs 0 (Nat.sub n 1)).map (c::·)
    | false=>cut cs (Nat.sub o 1) n
def putBytes:List V→Nat→Nat→Option (Nat × List V)
 | [],_,B=>some (B,[])
 | v::vs,o,B=>
  match Nat.ble 64 o with
  | true=>some (B,v::vs)
  | false=>match v with
   | .int .u8 (.ofNat x)=>match Nat.ble x 255 with
    | true=>putBytes vs (Nat.succ o) (setByte B o x)
    | false=>none
   | _=>none
def put:List V→Nat→List V→Option (List V)
 | cs,_,[]=>some cs
 | [],_,_::_=>none
 | c::cs,o,v::vs=>match c.asBlk with
  | some B=>match Nat.ble 64 o with
   | true=>(put cs (Nat.sub o 64) (v::vs)).map (.blk B::·)
   | false=>match v.asBlk with
    | some B'=>match o.beq 0 with
     | true=>(put cs 0 vs).map (.blk B'::·)
     | false=>none
    | none=>match putBytes (v::vs) o B with
     | some (B',r)=>(put cs 0 r).map (.blk B'::·)
     | none=>none
  | none=>match o.beq 0 with
   | true=>match v.flat with
    | true=>(put cs 0 vs).map (v::·)
    | false=>none
   | false=>(put cs (Nat.sub o 1) (v::vs)).map (c::·)
def loadAt (H:Heap) (p:Ptr) (sz:Nat):Option (List V):=
 match H.get p.b with
 | some (.rows _ esz rs)=>match nth rs (Nat.div p.o esz) with
  | some r=>cut r (Nat.mod p.o esz) sz
  | none=>none
 | _=>none
def storeAt (H:Heap) (p:Ptr) (vs:List V):Option Heap:=
 match H.get p.b with
 | some (.rows false esz rs)=>match nth rs (Nat.div p.o esz) with
  | some r=>match put r (Nat.mod p.o esz) vs with
   | some r'=>some (H.set p.b (.rows false esz (upd r' rs (Nat.div p.o esz))))
   | none=>none
  | none=>none
 | _=>none
def elems (H:Heap) (b:Bk) (sz:Nat):(n o:Nat)→Option (List (List V))
 | 0,_=>some []
 | n+1,o=>match loadAt H ⟨b,o⟩ sz with
  | some x=>(elems H b sz n (Nat.add o sz)).map (x::·)
  | none=>none
def storeElems (b:Bk) (sz:Nat):List (List V)→Nat→Heap→Option Heap
 | [],_,H=>some H
 | x::xs,o,H=>match storeAt H ⟨b,o⟩ x with
  | some H'=>storeElems b sz xs (Nat.add o sz) H'
  | none=>none
inductive TK where
 | sc | ag | bk
def TK.isAgg:TK→Bool
 | .sc=>false
 | _=>true
inductive CK where
 | int (k:IntKind) | bool | str | blk | other
def ofSc:Value→Option V
 | .bool b=>some (.bool b)
 | .int k n=>some (.int k n)
 | .string s=>some (.str s)
 | .pointer none=>some (.ptr none)
 | .slice none 0 0=>some (.slice none 0 0 0)
 | .map none=>some (.map none)
 | .nilFunc=>some .nilFunc
 | .nilIface=>some .nilIface
 | _=>none
def isU8 (P:Program) (t:TypeId):Bool:=
 match P.underlying t with
 | some (.int .u8)=>true
 | _=>false
def isBlk (P:Program) (t:TypeId):Bool:=
 match P.underlying t with
 | some (.array 64 e)=>isU8 P e
 | _=>false
def tkOf (P:Program) (t:TypeId):TK:=
 match P.underlying t with
 | some (.array _ _)=>match isBlk P t with
  | true=>.bk
  | false=>.ag
 | some (.struct _)=>.ag
 | _=>.sc
def tkT (P:Program) (t:TypeId):Option TK:=
 match P.underlying t with
 | some _=>some (tkOf P t)
 | none=>none
def layout (P:Program):Nat→TypeId→Option (List CK)
 | 0,_=>none
 | d+1,t=>
  match isBlk P t with
  | true=>some [.blk]
  | false=>
  match P.underlying t with
  | some (.struct fs)=>(fs.toList.mapM fun f=>layout P d f.type).map List.flatten
  | some (.array n e)=>(layout P d e).map fun l=>(List.replicate n l).flatten
  | some (.int k)=>some [.int k]
  | some .bool=>some [.bool]
  | some .string=>some [.str]
  | some _=>some [.other]
  | none=>none
def zeroByte:Value→Bool
 | .int .u8 0=>true
 | _=>false
def packZ:List CK→List Value→Option (List V)
 | [],[]=>some []
 | .blk::ls,vs=>match (vs.take 64).length.beq 64&&(vs.take 64).all zeroByte with
  | true=>(packZ ls (vs.drop 64)).map (.blk 0::·)
  | false=>none
 | _::ls,v::vs=>match ofSc v with
  | some x=>(packZ ls vs).map (x::·)
  | none=>none
 | _,_=>none
def sizeT (P:Program) (t:TypeId):Option Nat:=(P.info? t).map (·.size)
def bytesT (P:Program) (t:TypeId):Option Nat:=(P.info? t).map (·.bytes)
def zeroC (P:Program) (t:TypeId):Option (List V):=
 match P.info? t with
 | some i=>match i.zero,layout P 20 t with
  | some z,some l=>match packZ l z.cells.toList with
   | some cs=>match (width cs).beq i.size with
    | true=>some cs
    | false=>none
   | none=>none
  | _,_=>none
 | none=>none
def unc:TK→List V→Option V
 | .ag,cs=>some (.agg cs)
 | .bk,[.blk n]=>some (.blk n)
 | .sc,[.blk _]=>none
 | .sc,[v]=>some v
 | _,_=>none
def isAggV:Value→Bool
 | .agg _=>true
 | _=>false
def zeroV (P:Program) (t:TypeId):Option V:=
 match zeroC P t,tkT P t,(P.info? t).bind (·.zero) with
 | some cs,some k,some z=>match eqB (isAggV z) k.isAgg with
  | true=>unc k cs
  | false=>none
 | _,_,_=>none
def ckw:List CK→Nat
 | []=>0
 | .blk::ls=>Nat.add 64 (ckw ls)
 | _::ls=>Nat.add 1 (ckw ls)
def eqFields (P:Program) (rec:TypeId→Option (List CK)):List Field→Nat→Option (List CK)
 | [],_=>some []
 | f :: fs, off => match f.offset.beq off && !(f.name == "_"), rec f.type, sizeT P f.type with
  | true,some l,some sz=>match (ckw l).beq sz with
   | true=>(eqFields P rec fs (Nat.add off sz)).map (l++·)
   | false=>none
  | _,_,_=>none
def rep {α:Type} (l:List α):Nat→List α
 | 0=>[]
 | n+1=>l++rep l n
def eqLay (P:Program):Nat→TypeId→Option (List CK)
 | 0,_=>none
 | d+1,t=>
  match P.underlying t with
  | some (.struct fs)=>match P.stoodInHeld t with
   | true=>none
   | false=>eqFields P (eqLay P d) fs.toList 0
  | some (.array n e)=>match eqLay P d e,sizeT P e with
   | some l,some sz=>match (ckw l).beq sz with
    | true=>match isBlk P t with
     | true=>some [.blk]
     | false=>some (rep l n)
    | false=>none
   | _,_=>none
  | some (.int k)=>some [.int k]
  | some .bool=>some [.bool]
  | some .string=>some [.str]
  | _=>none
def cmpCells:List CK→List V→List V→Option Bool
 | [],[],[]=>some true
 | .int k::ls,.int j a::xs,.int l b::ys=>match decide (j=k)&&decide (l=k) with
  | true=>(cmpCells ls xs ys).map (eqI a b&&·)
  | false=>none
 | .bool::ls,.bool a::xs,.bool b::ys=>(cmpCells ls xs ys).map (eqB a b&&·)
 | .str::ls,.str a::xs,.str b::ys=>(cmpCells ls xs ys).map ((a==b)&&·)
 | .blk::ls,.blk a::xs,.blk b::ys=>(cmpCells ls xs ys).map (a.beq b&&·)
 | _,_,_=>none
inductive S where
 | t (p:List Bool)
 | c (v:V)
def S.get (s:S) (t:T):Option V:=S.rec (fun p=>t.getP p) (fun v=>some v) s
def gets (t:T):List S→Option (List V)
 | []=>some []
 | x::xs=>match x.get t with
  | some v=>(gets t xs).map (v::·)
  | none=>none
def oget (t:T):Option S→Option (Option V)
 | none=>some none
 | some x=>(x.get t).map some
def src (P:Program):Operand→Option S
 | .tmp t=>some (.t (Tr.path t))
 | .const v=>(ofSc v).map .c
 | .global g=>match Nat.ble (Nat.succ g) P.globals.size with
  | true=>some (.c (.ptr (some ⟨.run g,0⟩)))
  | false=>none
 | .func f=>some (.c (.func (.func f) [] []))
def srcs (P:Program):List Operand→Option (List S)
 | []=>some []
 | x::xs=>match src P x with
  | some s=>(srcs P xs).map (s::·)
  | none=>none
def osrc (P:Program):Option Operand→Option (Option S)
 | none=>some none
 | some x=>(src P x).map some
inductive Rs where
 | v (x:V)
 | p (x:V)
def undef:V:=.tuple []
abbrev CallT:=FuncId→List V→Heap→Option (Rs × Heap)
inductive OpS where
 | p (f:T→Option V)
 | r (f:T→Heap→Option V)
 | m (f:T→Option (Obj × (Nat→V)))
 | a (f:T→Heap→Option (V × Heap))
 | c (f:T→Option (FuncId × List V))
 | d (f:T→Option (FuncId × List V))
 | x (f:T→Option V)
 | rcv
def asNat:V→Option Nat
 | .int _ (.ofNat n)=>some n
 | _=>none
def arith (op:BinOp) (x y:V):Option V:=
 match x,y with
 | .int k a,.int k' b=>
  match op with
  | .shl=>match b with
   | .ofNat b=>mkI k (mulI a (.ofNat (Nat.pow 2 (min b k.bits))))
   | _=>none
  | .shr=>match b with
   | .ofNat b=>match a with
    | .ofNat a=>some (.int k (.ofNat (Nat.div a (Nat.pow 2 (min b k.bits)))))
    | a=>frc (a.fdiv (2 ^ (min b k.bits))) fun n=>some (.int k n)
   | _=>none
  | op=>match decide (k=k') with
   | false=>none
   | true=>match op with
    | .add=>mkI k (addI a b)
    | .sub=>mkI k (subI a b)
    | .mul=>mkI k (mulI a b)
    | .quo=>match eqI b 0 with
     | true=>none
     | false=>mkI k (quoI a b)
    | .rem=>match eqI b 0 with
     | true=>none
     | false=>frc (remI a b) fun n=>some (.int k n)
    | .and=>mkI k (bitI Nat.land (fun _ a b=>a&&&b) k a b)
    | .or=>mkI k (bitI Nat.lor (fun _ a b=>a ||| b) k a b)
    | .xor=>mkI k (bitI Nat.xor (fun _ a b=>a ^^^ b) k a b)
    | .andNot=>mkI k (.ofNat (BitVec.ofInt k.bits a&&&~~~ BitVec.ofInt k.bits b).toNat)
    | .lss=>some (.bool (ltI a b))
    | .leq=>some (.bool (!(ltI b a)))
    | .gtr=>some (.bool (ltI b a))
    | .geq=>some (.bool (!(ltI a b)))
    | .eql=>some (.bool (eqI a b))
    | .neq=>some (.bool (!(eqI a b)))
    | _=>none
 | _,_=>none
def unary (op:UnOp):V→Option V
 | .bool b=>match op with
  | .not=>some (.bool !b)
  | _=>none
 | .int k n=>match op with
  | .neg=>mkI k (subI 0 n)
  | .xor=>mkI k (bitI Nat.xor (fun _ a b=>a ^^^ b) k (if k.signed then -1 else k.max) n)
  | _=>none
 | _=>none
def bound (y:Nat) (v:V):Option Nat:=
 match asNat v with
 | some n=>match Nat.ble n y with
  | true=>some n
  | false=>none
 | none=>none
def boundD (y d:Nat):Option V→Option Nat
 | some v=>bound y v
 | none=>some d
def bounds (len cap:Nat) (lo hi mx:Option V):Option (Nat × Nat × Nat):=
 match hi,mx with
 | none,some _=>none
 | _,_=>match boundD cap cap mx with
  | some m=>match boundD m len hi with
   | some h=>match boundD h 0 lo with
    | some l=>some (l,h,m)
    | none=>none
   | none=>none
  | none=>none
def fill (t:T):List (Nat × Nat × S)→List V→Option (List V)
 | [],cs=>some cs
 | (off,sz,x)::ps,cs=>match x.get t with
  | some v=>match v.cells with
   | some vs=>match (width vs).beq sz&&Nat.ble 1 sz with
    | true=>match put cs off vs with
     | some cs'=>fill t ps cs'
     | none=>none
    | false=>none
   | none=>none
  | none=>none
def fillRows (t:T):List (Nat × Nat × S)→List (List V)→Option (List (List V))
 | [],rs=>some rs
 | (i,sz,x)::ps,rs=>match x.get t with
  | some v=>match v.cells with
   | some vs=>match (width vs).beq sz&&Nat.ble (Nat.succ i) rs.length with
    | true=>fillRows t ps (upd vs rs i)
    | false=>none
   | none=>none
  | none=>none
def min2:V→V→Option V
 | .int k x,.int _ y=>some (.int k (match ltI y x with | true=>y | false=>x))
 | _,_=>none
def max2:V→V→Option V
 | .int k x,.int _ y=>some (.int k (match ltI x y with | true=>y | false=>x))
 | _,_=>none
def foldV (f:V→V→Option V):V→List V→Option V
 | v,[]=>some v
 | v,x::xs=>match f v x with
  | some y=>foldV f y xs
  | none=>none
def pickF (c a b:S) (t:T):Option V:=
 match c.get t with
 | some (.bool true)=>a.get t
 | some (.bool false)=>b.get t
 | _=>none
def nilcF (x:S) (t:T):Option V:=
 match x.get t with
 | some (.ptr (some p))=>some (.ptr (some p))
 | some (.func (.func f) a b)=>some (.func (.func f) a b)
 | _=>none
def faddrF (x:S) (off:Nat) (t:T):Option V:=
 match x.get t with
 | some (.ptr (some p))=>some (.ptr (some ⟨p.b,Nat.add p.o off⟩))
 | _=>none
def fldF (x:S) (off sz:Nat) (k:TK) (t:T):Option V:=
 match x.get t with
 | some (.agg cs)=>(cut cs off sz).bind (unc k)
 | _=>none
def iaddrAF (x i:S) (n sz:Nat) (t:T):Option V:=
 match x.get t,(i.get t).bind asNat with
 | some (.ptr (some p)),some i=>match Nat.ble (Nat.succ i) n with
  | true=>some (.ptr (some ⟨p.b,Nat.add p.o (Nat.mul i sz)⟩))
  | false=>none
 | _,_=>none
def iaddrSF (x i:S) (sz:Nat) (t:T):Option V:=
 match x.get t,(i.get t).bind asNat with
 | some (.slice (some p) len _ _),some i=>match Nat.ble (Nat.succ i) len with
  | true=>some (.ptr (some ⟨p.b,Nat.add p.o (Nat.mul i sz)⟩))
  | false=>none
 | _,_=>none
def idxAF (x i:S) (n sz:Nat) (k:TK) (t:T):Option V:=
 match x.get t,(i.get t).bind asNat with
 | some v,some i=>match v.flat,v.cells with
  | false,some cs=>match Nat.ble (Nat.succ i) n with
   | true=>(cut cs (Nat.mul i sz) sz).bind (unc k)
   | false=>none
  | _,_=>none
 | _,_=>none
def idxSF (x i:S) (t:T):Option V:=
 match x.get t,(i.get t).bind asNat with
 | some (.str s),some i=>match nth s.data.toList i with
  | some b=>some (.int .u8 (.ofNat b.toNat))
  | none=>none
 | _,_=>none
def sliceF (sz:Nat) (x:S) (lo hi mx:Option S) (t:T):Option V:=
 match x.get t,oget t lo,oget t hi,oget t mx with
 | some (.slice p len cap loose),some lo,some hi,some mx=>
  match loose.beq 0 with
  | false=>match mx with
   | some _=>none
   | none=>match bounds len cap lo hi none with
    | some (l,h,m)=>match Nat.ble (Nat.succ l) m&&loose.beq sz with
     | true=>some (.slice (p.map fun p=>⟨p.b,Nat.add p.o (Nat.mul l sz)⟩) (Nat.sub h l) (Nat.sub m l) loose)
     | false=>match m.beq l&&h.beq l,p with
      | true,some _=>some (.slice none 0 0 1)
      | _,_=>none
    | none=>none
  | true=>match bounds len cap lo hi mx with
   | some (l,h,m)=>some (.slice (match m.beq l with | true=>p | false=>p.map fun p=>⟨p.b,Nat.add p.o (Nat.mul l sz)⟩) (Nat.sub h l) (Nat.sub m l) 0)
   | none=>none
 | _,_,_,_=>none
def sliceAF (n sz:Nat) (x:S) (lo hi mx:Option S) (t:T):Option V:=
 match x.get t,oget t lo,oget t hi,oget t mx with
 | some (.ptr (some p)),some lo,some hi,some mx=>
  match bounds n n lo hi mx with
  | some (l,h,m)=>some (.slice (some (match m.beq l with | true=>p | false=>⟨p.b,Nat.add p.o (Nat.mul l sz)⟩)) (Nat.sub h l) (Nat.sub m l) 0)
  | none=>none
 | _,_,_,_=>none
def s2apF (n:Nat) (x:S) (t:T):Option V:=
 match x.get t with
 | some (.slice (some p) len _ _)=>match Nat.ble n len with
  | true=>some (.ptr (some p))
  | false=>none
 | _=>none
def arF (op:BinOp) (x y:S) (t:T):Option V:=
 match x.get t,y.get t with
 | some x,some y=>arith op x y
 | _,_=>none
def eqcF (neg agg:Bool) (ck:List CK) (x y:S) (t:T):Option V:=
 match x.get t,y.get t with
 | some x,some y=>match x.cells,y.cells,eqB x.flat (!agg)&&eqB y.flat (!agg) with
  | some xs,some ys,true=>match cmpCells ck xs ys with
   | some b=>some (.bool (match neg with | true=>!b | false=>b))
   | none=>none
  | _,_,_=>none
 | _,_=>none
def convF (k:IntKind) (x:S) (t:T):Option V:=
 match x.get t with
 | some (.int _ n)=>mkI k n
 | _=>none
def extF (x:S) (i:Nat) (t:T):Option V:=
 match x.get t with
 | some (.tuple vs)=>nth vs i
 | _=>none
def lenF (x:S) (t:T):Option V:=
 match x.get t with
 | some (.slice _ n _ _)=>some (.int .i64 (.ofNat n))
 | _=>none
def capF (x:S) (t:T):Option V:=
 match x.get t with
 | some (.slice _ _ n 0)=>some (.int .i64 (.ofNat n))
 | _=>none
def foldF (f:V→V→Option V) (xs:List S) (t:T):Option V:=
 match gets t xs with
 | some (v::vs)=>foldV f v vs
 | _=>none
def mkfnF (fn:Fn) (f c:List S) (t:T):Option V:=
 match gets t f,gets t c with
 | some f,some c=>some (.func fn f c)
 | _,_=>none
def tassertF (x:S) (ty:TypeId) (z:V) (ok:Bool) (t:T):Option V:=
 match x.get t with
 | some (.iface u v)=>match u.beq ty with
  | true=>some (match ok with | true=>.tuple [v,.bool true] | false=>v)
  | false=>match ok with
   | true=>some (.tuple [z,.bool false])
   | false=>none
 | some .nilIface=>match ok with
  | true=>some (.tuple [z,.bool false])
  | false=>none
 | _=>none
def Heap.live (H:Heap) (b:Bk):Bool:=
 match H.get b with
 | some (.rows false _ _)=>true
 | _=>false
def isNone {α:Type}:Option α→Bool
 | none=>true
 | some _=>false
inductive EK where
 | ptr | slice | map | func | iface (lit:Bool)
def eqPtr (H:Heap):V→V→Option Bool
 | .ptr none,.ptr b=>some (isNone b)
 | .ptr (some _),.ptr none=>some false
 | .ptr (some a),.ptr (some b)=>match a.b.beq b.b with
  | true=>some (a.o.beq b.o)
  | false=>match H.live a.b&&H.live b.b with
   | true=>some false
   | false=>none
 | _,_=>none
def eqSl:V→V→Option Bool
 | .slice none _ _ l,.slice b _ _ l'=>match l.beq 0 with
  | true=>match b with
   | none=>match l'.beq 0 with
    | true=>some true
    | false=>none
   | some _=>some false
  | false=>none
 | .slice (some _) _ _ _,.slice none _ _ l=>match l.beq 0 with
  | true=>some false
  | false=>none
 | _,_=>none
def eqMap:V→V→Option Bool
 | .map none,.map b=>some (isNone b)
 | .map (some _),.map none=>some false
 | _,_=>none
def eqFn:V→V→Option Bool
 | .nilFunc,.nilFunc=>some true
 | .nilFunc,.func _ _ _=>some false
 | .func _ _ _,.nilFunc=>some false
 | _,_=>none
def eqIf (lit:Bool):V→V→Option Bool
 | .nilIface,.nilIface=>match lit with
  | true=>some true
  | false=>none
 | .nilIface,.iface _ _=>some false
 | .iface _ _,.nilIface=>some false
 | _,_=>none
def eqN (H:Heap) (e:EK) (x y:V):Option Bool:=
 match e with
 | .ptr=>eqPtr H x y
 | .slice=>eqSl x y
 | .map=>eqMap x y
 | .func=>eqFn x y
 | .iface lit=>eqIf lit x y
def eqnF (neg:Bool) (e:EK) (x y:S) (t:T) (H:Heap):Option V:=
 match x.get t,y.get t with
 | some x,some y=>match eqN H e x y with
  | some b=>some (.bool (match neg with | true=>!b | false=>b))
  | none=>none
 | _,_=>none
def loadF (x:S) (sz:Nat) (k:TK) (t:T) (H:Heap):Option V:=
 match x.get t with
 | some (.ptr (some p))=>(loadAt H p sz).bind (unc k)
 | _=>none
def sameKey:V→V→Option Bool
 | .int k a,.int k' b=>match decide (k=k') with
  | true=>some (eqI a b)
  | false=>none
 | .str a,.str b=>some (a==b)
 | _,_=>none
def findE (k:V):List (V × V × Nat)→Nat→Option (Option (Nat × V × Nat))
 | [],_=>some none
 | (k',v,born)::es,i=>
  match sameKey k k' with
  | some true=>some (some (i,v,born))
  | some false=>findE k es (Nat.succ i)
  | none=>none
def mapAt (H:Heap) (r:Bk):Option (List (V × V × Nat) × Nat):=
 match H.get r with
 | some (.map es c)=>some (es,c)
 | _=>none
def lenMF (x:S) (t:T) (H:Heap):Option V:=
 match x.get t with
 | some (.map none)=>some (.int .i64 (.ofNat 0))
 | some (.map (some r))=>match mapAt H r with
  | some (es,_)=>some (.int .i64 (.ofNat es.length))
  | none=>none
 | _=>none
def isInt:V→Bool
 | .int _ _=>true
 | _=>false
def lookF (z:V) (ok:Bool) (x i:S) (t:T) (H:Heap):Option V:=
 match x.get t,i.get t with
 | some (.map r),some i=>match isInt i with
  | false=>none
  | true=>match r with
   | none=>some (match ok with | true=>.tuple [z,.bool false] | false=>z)
   | some r=>match mapAt H r with
    | some (es,_)=>match findE i es 0 with
     | some (some (_,v,_))=>some (match ok with | true=>.tuple [v,.bool true] | false=>v)
     | some none=>some (match ok with | true=>.tuple [z,.bool false] | false=>z)
     | none=>none
    | none=>none
 | _,_=>none
def ptr0 (b:Nat):V:=.ptr (some ⟨.run b,0⟩)
def allocF (sz:Nat) (z:List V) (_:T):Option (Obj × (Nat→V)):=some (.rows false sz [z],ptr0)
def boxF (sz:Nat) (x:S) (t:T):Option (Obj × (Nat→V)):=
 match x.get t with
 | some v=>match v.cells with
  | some vs=>match (width vs).beq sz with
   | true=>some (.rows false sz [vs],ptr0)
   | false=>none
  | none=>none
 | none=>none
def buildF (z:List V) (k:TK) (ps:List (Nat × Nat × S)) (t:T):Option V:=(fill t ps z).bind (unc k)
def bsliceF (n sz:Nat) (z:List V) (ps:List (Nat × Nat × S)) (t:T):Option (Obj × (Nat→V)):=
 (fillRows t ps (List.replicate n z)).map fun rs=>(.rows false sz rs,fun b=>.slice (some ⟨.run b,0⟩) n n 0)
def mksliceF (sz bytes:Nat) (z:List V) (l c:S) (t:T):Option (Obj × (Nat→V)):=
 match (l.get t).bind asNat,(c.get t).bind asNat with
 | some l,some c=>match Nat.ble l c&&Nat.ble (Nat.mul bytes c) 1099511627776&&Nat.ble c 1099511627776 with
  | true=>some (.rows false sz (List.replicate c z),fun b=>.slice (some ⟨.run b,0⟩) l c 0)
  | false=>none
 | _,_=>none
def mkmapF (_:T):Option (Obj × (Nat→V)):=some (.map [] 0,fun b=>.map (some (.run b)))
def storeF (a x:S) (sz:Nat) (t:T) (H:Heap):Option (V × Heap):=
 match a.get t,x.get t with
 | some (.ptr (some p)),some v=>match v.cells with
  | some vs=>match (width vs).beq sz with
   | true=>(storeAt H p vs).map fun H'=>(undef,H')
   | false=>none
  | none=>none
 | _,_=>none
def lenOf:V→Option Nat
 | .slice _ n _ _=>some n
 | _=>none
def firstE (H:Heap) (sz:Nat):V→Option (List (List V))
 | .slice none _ _ _=>some []
 | .slice (some p) n _ _=>elems H p.b sz n p.o
 | _=>none
def appendV (sz bytes:Nat) (H:Heap) (s x:V):Option (V × Heap):=
 match s,lenOf x with
 | .slice p len cap loose,some n=>
  match n.beq 0 with
  | true=>match Nat.ble len cap with
   | true=>some (.slice p len cap loose,H)
   | false=>none
  | false=>
  match Nat.ble (Nat.mul (Nat.add len n) bytes) 1099511627776&&Nat.ble (Nat.add len n) 1099511627776 with
  | false=>none
  | true=>
  match firstE H sz x with
  | none=>none
  | some new=>
   match loose.beq 0 with
   | true=>
    match Nat.ble (Nat.add len n) cap with
    | true=>match p with
     | some p=>(storeElems p.b sz new (Nat.add p.o (Nat.mul len sz)) H).map fun H'=>(.slice (some p) (Nat.add len n) cap 0,H')
     | none=>none
    | false=>match firstE H sz (.slice p len cap 0) with
     | some old=>some (.slice (some ⟨.run H.next,0⟩) (Nat.add len n) (Nat.add len n) sz,H.add (.rows false sz (old++new)))
     | none=>none
   | false=>
    match p with
    | some q=>
     match H.get q.b with
     | some (.rows false esz rs)=>
      match esz.beq sz&&loose.beq sz&&(Nat.mod q.o sz).beq 0&&(Nat.add (Nat.div q.o sz) len).beq rs.length&&len.beq cap with
      | true=>some (.slice (some ⟨.run H.next,0⟩) (Nat.add len n) (Nat.add len n) sz,(H.set q.b .dead).add (.rows false sz (rs.drop (Nat.div q.o sz)++new)))
      | false=>none
     | _=>none
    | none=>none
 | _,_=>none
def copyV (sz:Nat) (H:Heap) (d s:V):Option (V × Heap):=
 match d,s with
 | .slice dp dl _ _,.slice sp sl sc sx=>
  match (min sl dl).beq 0 with
  | true=>some (.int .i64 (.ofNat 0),H)
  | false=>
  match firstE H sz (.slice sp (min sl dl) sc sx),dp with
  | some new,some p=>(storeElems p.b sz new p.o H).map fun H'=>(.int .i64 (.ofNat (min sl dl)),H')
  | _,_=>none
 | _,_=>none
def mapUpd (H:Heap) (m k v:V):Option (V × Heap):=
 match m,isInt k with
 | .map (some r),true=>match mapAt H r with
  | some (es,clock)=>match findE k es 0 with
   | some (some (i,_,born))=>some (undef,H.set r (.map (upd (k,v,born) es i) clock))
   | some none=>some (undef,H.set r (.map (es++[(k,v,clock)]) (Nat.succ clock)))
   | none=>none
  | none=>none
 | _,_=>none
def mapEnt (z:V) (H:Heap) (m k:V):Option (V × Heap):=
 match m,isInt k with
 | .map (some r),true=>match mapAt H r with
  | some (es,clock)=>match findE k es 0 with
   | some (some (_,v,born))=>some (.tuple [v,.int .i64 (.ofNat born)],H)
   | some none=>some (.tuple [z,.int .i64 (.ofNat clock)],H.set r (.map (es++[(k,z,clock)]) (Nat.succ clock)))
   | none=>none
  | none=>none
 | _,_=>none
def setBorn (born:Nat) (v:V):List (V × V × Nat)→Option (List (V × V × Nat))
 | []=>none
 | (k,u,b)::es=>match b.beq born with
  | true=>some ((k,v,b)::es)
  | false=>(setBorn born v es).map ((k,u,b)::·)
def entSt (H:Heap) (m s v:V):Option (V × Heap):=
 match m,asNat s with
 | .map (some r),some born=>match mapAt H r with
  | some (es,clock)=>match setBorn born v es with
   | some es'=>some (undef,H.set r (.map es' clock))
   | none=>none
  | none=>none
 | _,_=>none
def del {α:Type}:List α→Nat→List α
 | [],_=>[]
 | _::as,0=>as
 | a::as,n+1=>a::del as n
def mapDel (H:Heap) (m k:V):Option (V × Heap):=
 match m,isInt k with
 | .map none,true=>some (undef,H)
 | .map (some r),true=>match mapAt H r with
  | some (es,clock)=>match findE k es 0 with
   | some (some (i,_,_))=>some (undef,H.set r (.map (del es i) clock))
   | some none=>some (undef,H)
   | none=>none
  | none=>none
 | _,_=>none
def hasN (n:Nat):List Nat→Bool
 | []=>false
 | m::l=>match n.beq m with
  | true=>true
  | false=>hasN n l
def leftE (seen:List Nat):List (V × V × Nat)→List (V × V × Nat)
 | []=>[]
 | (k,v,b)::es=>match hasN b seen with
  | true=>leftE seen es
  | false=>(k,v,b)::leftE seen es
def allLt (since:Nat):List (V × V × Nat)→Bool
 | []=>true
 | (_,_,b)::es=>match Nat.ble (Nat.succ b) since with
  | true=>allLt since es
  | false=>false
def lastN:List Nat→Option Nat
 | []=>none
 | n::l=>match l with
  | []=>some n
  | _::_=>lastN l
def findB (b:Nat):List (V × V × Nat)→Option (V × V)
 | []=>none
 | (k,v,c)::es=>match c.beq b with
  | true=>some (k,v)
  | false=>findB b es
def rangeV (H:Heap):V→Option (V × Heap)
 | .map none=>some (ptr0 H.next,H.add (.iter none 0 [] 0))
 | .map (some r)=>match mapAt H r with
  | some (_,clock)=>some (ptr0 H.next,H.add (.iter (some r) clock [] clock))
  | none=>none
 | _=>none
def nextV (H:Heap):V→Option (V × Heap)
 | .ptr (some p)=>match p.o.beq 0,H.get p.b with
  | true,some (.iter none _ _ _)=>some (.tuple [.bool false],H)
  | true,some (.iter (some r) since seen last)=>match mapAt H r with
   | some (es,clock)=>match allLt since es&&Nat.ble since last with
    | true=>match leftE seen es with
     | []=>some (.tuple [.bool false],H)
     | [(k,v,b)]=>some (.tuple [.bool true,k,v],H.set p.b (.iter (some r) since (seen++[b]) clock))
     | _=>none
    | false=>none
   | none=>none
  | _,_=>none
 | _=>none
def entryV (H:Heap):V→Option V
 | .ptr (some p)=>match p.o.beq 0,H.get p.b with
  | true,some (.iter (some r) _ seen last)=>match mapAt H r,lastN seen with
   | some (es,clock),some b=>match clock.beq last with
    | true=>(findB b es).map fun e=>.tuple [e.1,e.2]
    | false=>none
   | _,_=>none
  | _,_=>none
 | _=>none
def rangeF (x:S) (t:T) (H:Heap):Option (V × Heap):=match x.get t with
 | some x=>rangeV H x
 | none=>none
def nextF (x:S) (t:T) (H:Heap):Option (V × Heap):=match x.get t with
 | some x=>nextV H x
 | none=>none
def entryF (x:S) (t:T) (H:Heap):Option V:=match x.get t with
 | some x=>entryV H x
 | none=>none
def clearV (sz:Nat) (z:List V) (H:Heap):V→Option (V × Heap)
 | .slice p n _ _=>match n.beq 0 with
  | true=>some (undef,H)
  | false=>match p with
   | some p=>(storeElems p.b sz (List.replicate n z) p.o H).map fun H'=>(undef,H')
   | none=>none
 | _=>none
def clearF (sz:Nat) (z:List V) (x:S) (t:T) (H:Heap):Option (V × Heap):=match x.get t with
 | some x=>clearV sz z H x
 | none=>none
def callF (f:S) (args:List S) (t:T):Option (FuncId × List V):=
 match f.get t,gets t args with
 | some (.func (.func id) first cap),some args=>some (id,first++args++cap)
 | _,_=>none
def structF (P:Program) (t:TypeId) (f:Nat):Option Field:=
 match P.underlying t with
 | some (.struct fs)=>fs[f]?
 | _=>none
def partsS (P:Program) (t:TypeId):List (Nat × Operand)→Option (List (Nat × Nat × S))
 | []=>some []
 | (i,x)::ps=>match structF P t i,src P x with
  | some f,some s=>match sizeT P f.type with
   | some sz=>(partsS P t ps).map ((f.offset,sz,s)::·)
   | none=>none
  | _,_=>none
def partsA (P:Program) (sz mul:Nat):List (Nat × Operand)→Option (List (Nat × Nat × S))
 | []=>some []
 | (i,x)::ps=>match src P x with
  | some s=>(partsA P sz mul ps).map ((Nat.mul i mul,sz,s)::·)
  | none=>none
def isLit:Operand→Bool
 | .const _=>true
 | _=>false
def ekOf (P:Program) (t:TypeId) (x y:Operand):Option EK:=
 match P.underlying t with
 | some (.pointer e)=>match sizeT P e with
  | some n=>match n.beq 0 with
   | true=>none
   | false=>some .ptr
  | none=>none
 | some (.slice _)=>some .slice
 | some (.map _ _)=>some .map
 | some (.func _ _ _)=>some .func
 | some (.interface _)=>some (.iface (isLit x || isLit y))
 | _=>none
def prepEq (P:Program) (neg:Bool) (t:TypeId) (xo yo:Operand) (x y:S):Option OpS:=
 match eqLay P 20 t with
 | some ck=>match P.eqGuardType P.depth t,tkT P t with
  | false,some k=>some (.p (eqcF neg k.isAgg ck x y))
  | _,_=>none
 | none=>(ekOf P t xo yo).map fun e=>.r (eqnF neg e x y)
def isIntKey (P:Program) (t:TypeId):Bool:=
 match P.underlying t with
 | some (.int _)=>true
 | _=>false
def prepBuiltin (P:Program) (b:Builtin) (argTypes:List TypeId) (args:List S):Option OpS:=
 match b,argTypes,args with
 | .len,[t],[x]=>match P.underlying t with
  | some (.slice _)=>some (.p (lenF x))
  | some (.array n _)=>some (.p fun _=>some (.int .i64 (.ofNat n)))
  | some (.pointer a)=>match P.underlying a with
   | some (.array n _)=>some (.p fun _=>some (.int .i64 (.ofNat n)))
   | _=>none
  | some (.map _ _)=>some (.r (lenMF x))
  | _=>none
 | .cap,[t],[x]=>match P.underlying t with
  | some (.slice _)=>some (.p (capF x))
  | _=>none
 | .min,_,xs=>some (.p (foldF min2 xs))
 | .max,_,xs=>some (.p (foldF max2 xs))
 | .append,[t,u],[s,x]=>match P.underlying t,P.underlying u with
  | some (.slice e),some (.slice _)=>match sizeT P e,bytesT P e,zeroC P e with
   | some sz,some by',some _=>match sz.beq 0 with
    | true=>none
    | false=>some (.a fun t H=>match s.get t,x.get t with
     | some s,some x=>appendV sz by' H s x
     | _,_=>none)
   | _,_,_=>none
  | _,_=>none
 | .copy,[t,u],[d,s]=>match P.underlying t,P.underlying u with
  | some (.slice e),some (.slice _)=>match sizeT P e with
   | some sz=>some (.a fun t H=>match d.get t,s.get t with
    | some d,some s=>copyV sz H d s
    | _,_=>none)
   | _=>none
  | _,_=>none
 | .delete,[t,_],[m,k]=>match P.underlying t with
  | some (.map kt _)=>match isIntKey P kt with
   | true=>some (.a fun t H=>match m.get t,k.get t with
    | some m,some k=>mapDel H m k
    | _,_=>none)
   | false=>none
  | _=>none
 | .clear,[t],[x]=>match P.underlying t with
  | some (.slice e)=>match sizeT P e,zeroC P e with
   | some sz,some z=>match sz.beq 0 with
    | true=>none
    | false=>some (.a (clearF sz z x))
   | _,_=>none
  | _=>none
 | .recover,[],[]=>some .rcv
 | _,_,_=>none
def prep (P:Program):Op→Option OpS
 | .move x=>(src P x).map fun x=>.p x.get
 | .assign x=>(src P x).map fun x=>.p x.get
 | .pick c a b=>match src P c,src P a,src P b with
  | some c,some a,some b=>some (.p (pickF c a b))
  | _,_,_=>none
 | .alloc t=>match sizeT P t,zeroC P t with
  | some sz,some z=>some (.m (allocF sz z))
  | _,_=>none
 | .box t x=>match sizeT P t,src P x with
  | some sz,some x=>some (.m (boxF sz x))
  | _,_=>none
 | .build t ps=>match zeroC P t,P.underlying t,tkT P t with
  | some z,some (.struct fs),some k=>match fs.toList.all fun f=>(P.info? f.type).isSome with
   | true=>(partsS P t ps.toList).map fun l=>.p (buildF z k l)
   | false=>none
  | some z,some (.array _ e),some k=>match sizeT P e with
   | some sz=>(partsA P sz sz ps.toList).map fun l=>.p (buildF z k l)
   | none=>none
  | _,_,_=>none
 | .buildSlice t n ps=>match P.underlying t with
  | some (.slice e)=>match sizeT P e,zeroC P e with
   | some sz,some z=>match Nat.ble (Nat.mul n sz) 16777216&&!(sz.beq 0) with
    | true=>(partsA P sz 1 ps.toList).map fun l=>.m (bsliceF n sz z l)
    | false=>none
   | _,_=>none
  | _=>none
 | .load t a=>match sizeT P t,src P a,tkT P t with
  | some sz,some a,some k=>some (.r (loadF a sz k))
  | _,_,_=>none
 | .store t a x=>match sizeT P t,src P a,src P x with
  | some sz,some a,some x=>some (.a (storeF a x sz))
  | _,_,_=>none
 | .nilCheck x=>(src P x).map fun x=>.p (nilcF x)
 | .binOp op t xo yo _=>match src P xo,src P yo with
  | some x,some y=>match op with
   | .eql=>prepEq P false t xo yo x y
   | .neq=>prepEq P true t xo yo x y
   | op=>some (.p (arF op x y))
  | _,_=>none
 | .unOp op _ x=>(src P x).map fun x=>.p fun t=>(x.get t).bind (unary op)
 | .convert s d x=>match P.underlying s,P.underlying d,src P x with
  | some (.int _),some (.int k),some x=>some (.p (convF k x))
  | _,_,_=>none
 | .sliceToArrayPointer a x=>match P.underlying a,src P x with
  | some (.array n _),some x=>some (.p (s2apF n x))
  | _,_=>none
 | .makeInterface t x=>match P.underlying t,src P x with
  | some (.interface _),_=>none
  | some _,some x=>some (.p fun s=>(x.get s).map (.iface t ·))
  | _,_=>none
 | .makeFunc fn f c=>match srcs P f.toList,srcs P c.toList with
  | some f,some c=>some (.p (mkfnF fn f c))
  | _,_=>none
 | .makeMap _ none=>some (.m mkmapF)
 | .makeSlice t l c=>match P.underlying t,src P l,src P c with
  | some (.slice e),some l,some c=>match sizeT P e,bytesT P e,zeroC P e with
   | some sz,some by',some z=>match sz.beq 0 with
    | true=>none
    | false=>some (.m (mksliceF sz by' z l c))
   | _,_,_=>none
  | _,_,_=>none
 | .slice t x lo hi mx=>match src P x,osrc P lo,osrc P hi,osrc P mx with
  | some x,some lo,some hi,some mx=>match P.underlying t with
   | some (.slice e)=>(sizeT P e).map fun sz=>.p (sliceF sz x lo hi mx)
   | some (.array n e)=>(sizeT P e).map fun sz=>.p (sliceAF n sz x lo hi mx)
   | some (.pointer a)=>match P.underlying a with
    | some (.array n e)=>(sizeT P e).map fun sz=>.p (sliceAF n sz x lo hi mx)
    | _=>none
   | _=>none
  | _,_,_,_=>none
 | .fieldAddr t x f=>match structF P t f,src P x with
  | some fd,some x=>match sizeT P fd.type with
   | some sz=>match sz.beq 0 with
    | true=>none
    | false=>some (.p (faddrF x fd.offset))
   | none=>none
  | _,_=>none
 | .field t x f=>match structF P t f,src P x with
  | some fd,some x=>match sizeT P fd.type,tkT P fd.type with
   | some sz,some k=>some (.p (fldF x fd.offset sz k))
   | _,_=>none
  | _,_=>none
 | .indexAddr t x i=>match P.underlying t,src P x,src P i with
  | some (.array n e),some x,some i=>(sizeT P e).map fun sz=>.p (iaddrAF x i n sz)
  | some (.slice e),some x,some i=>(sizeT P e).map fun sz=>.p (iaddrSF x i sz)
  | _,_,_=>none
 | .index t x i=>match P.underlying t,src P x,src P i with
  | some (.array n e),some x,some i=>match sizeT P e,tkT P e with
   | some sz,some k=>some (.p (idxAF x i n sz k))
   | _,_=>none
  | some .string,some x,some i=>some (.p (idxSF x i))
  | _,_,_=>none
 | .lookup t x i ok=>match P.underlying t,src P x,src P i with
  | some (.map k e),some x,some i=>match isIntKey P k,zeroV P e with
   | true,some z=>some (.r (lookF z ok x i))
   | _,_=>none
  | _,_,_=>none
 | .mapUpdate t m k v=>match P.underlying t,src P m,src P k,src P v with
  | some (.map kt _),some m,some k,some v=>match isIntKey P kt with
   | true=>some (.a fun t H=>match m.get t,k.get t,v.get t with
    | some m,some k,some v=>mapUpd H m k v
    | _,_,_=>none)
   | false=>none
  | _,_,_,_=>none
 | .mapEntry t m k=>match P.underlying t,src P m,src P k with
  | some (.map kt e),some m,some k=>match isIntKey P kt,zeroV P e with
   | true,some z=>some (.a fun t H=>match m.get t,k.get t with
    | some m,some k=>mapEnt z H m k
    | _,_=>none)
   | _,_=>none
  | _,_,_=>none
 | .entryStore _ m s v=>match src P m,src P s,src P v with
  | some m,some s,some v=>some (.a fun t H=>match m.get t,s.get t,v.get t with
   | some m,some s,some v=>entSt H m s v
   | _,_,_=>none)
  | _,_,_=>none
 | .range t x=>match P.underlying t,src P x with
  | some (.map _ _),some x=>some (.a (rangeF x))
  | _,_=>none
 | .next x false=>(src P x).map fun x=>.a (nextF x)
 | .entry x=>(src P x).map fun x=>.r (entryF x)
 | .extract x i=>(src P x).map fun x=>.p (extF x i)
 | .typeAssert x _ a ok=>match P.underlying a,src P x with
  | some (.interface _),_=>none
  | some _,some x=>(zeroV P a).map fun z=>.p (tassertF x a z ok)
  | _,_=>none
 | .call c=>match c.callee,srcs P c.args.toList with
  | .value f,some args=>(src P f).map fun f=>.c (callF f args)
  | .builtin b,some args=>prepBuiltin P b c.argTypes.toList args
  | _,_=>none
 | .defer c=>match c.callee,srcs P c.args.toList with
  | .value f,some args=>(src P f).map fun f=>.d (callF f args)
  | _,_=>none
 | .panic x=>(src P x).map fun x=>.x x.get
 | _=>none
structure St where
 t:T
 H:Heap
 d:List (FuncId × List V)
structure IOp where
 dst:Option (List Bool)
 op:Option OpS
 guard:Option (Option (List Bool) × Bool)
 see:List (List Bool)
def seeOf:List Operand→List (List Bool)
 | []=>[]
 | .tmp t::xs=>Tr.path t::seeOf xs
 | _::xs=>seeOf xs
def dstOk (n:Nat):Option Nat→Bool
 | none=>true
 | some d=>Nat.ble (Nat.succ d) n
def prepOper (P:Program) (n:Nat) (ops:Array Oper) (o:Oper):IOp:=
 ⟨o.dst.map Tr.path,(match dstOk n o.dst with | true=>prep P o.op | false=>none),o.guard.map fun g=>(((ops[g.1]?).bind (·.dst)).map Tr.path,g.2),seeOf o.op.operands.toList⟩
def wanted (t:T):Option (Option (List Bool) × Bool)→Option Bool
 | none=>some true
 | some (none,_)=>none
 | some (some g,w)=>match t.getP g with
  | some (.bool b)=>some (eqB b w)
  | some (.tuple [])=>some false
  | _=>none
def setT (d:Option (List Bool)) (v:V) (t:T):T:=
 match d with
 | some d=>t.setP d v
 | none=>t
inductive X where
 | n | ex (id:Nat) | ret | pan (x:V)
def runOp (call:CallT) (k:T→Heap→List (FuncId × List V)→Option (X × St)) (dst:Option (List Bool)) (s:OpS) (t:T) (H:Heap) (d:List (FuncId × List V)):Option (X × St):=
 match s with
 | .p f=>match f t with
  | some v=>k (setT dst v t) H d
  | none=>none
 | .r f=>match f t H with
  | some v=>k (setT dst v t) H d
  | none=>none
 | .m f=>match f t with
  | some (o,mk)=>k (setT dst (mk H.next) t) (H.add o) d
  | none=>none
 | .a f=>match f t H with
  | some (v,H')=>k (setT dst v t) H' d
  | none=>none
 | .c f=>match f t with
  | some (id,args)=>match call id args H with
   | some (.v v,H')=>k (setT dst v t) H' d
   | some (.p v,H')=>some (.pan v,⟨t,H',d⟩)
   | none=>none
  | none=>none
 | .d f=>match f t with
  | some x=>k (setT dst undef t) H (x::d)
  | none=>none
 | .x f=>match f t with
  | some (.iface ty v)=>some (.pan (.iface ty v),⟨t,H,d⟩)
  | _=>none
 | .rcv=>none
def runIOp (call:CallT) (k:T→Heap→List (FuncId × List V)→Option (X × St)) (o:IOp) (t:T) (H:Heap) (d:List (FuncId × List V)):Option (X × St):=
 match wanted t o.guard with
 | some true=>match o.op with
  | some s=>runOp call k o.dst s t H d
  | none=>none
 | some false=>k (setT o.dst undef t) H d
 | none=>none
def runOps (call:CallT) (l:List IOp):T→Heap→List (FuncId × List V)→Option (X × St):=
 List.rec (motive:=fun _=>T→Heap→List (FuncId × List V)→Option (X × St)) (fun t H d=>some (.n,⟨t,H,d⟩)) (fun o _ ih t H d=>runIOp call ih o t H d) l
def narrow (t:T):List (List Bool)→T
 | []=>.e
 | p::ps=>match t.getP p with
  | some v=>(narrow t ps).setP p v
  | none=>narrow t ps
inductive DK where
 | q
 | r (g:Heap→Option V)
 | m (o:Obj)
 | a
structure DEv where
 k:DK
 v:V
 b:Heap
 a:Heap
def runOpD (call:CallT) (s:OpS) (t:T) (H:Heap):Option DEv:=
 match s with
 | .p f=>match f t with
  | some v=>some ⟨.q,v,H,H⟩
  | none=>none
 | .r f=>match f t H with
  | some v=>some ⟨.r (f t),v,H,H⟩
  | none=>none
 | .m f=>match f t with
  | some (o,mk)=>some ⟨.m o,mk H.next,H,H.add o⟩
  | none=>none
 | .a f=>match f t H with
  | some (v,H')=>some ⟨.a,v,H,H'⟩
  | none=>none
 | .c f=>match f t with
  | some (id,args)=>match call id args H with
   | some (.v v,H')=>some ⟨.a,v,H,H'⟩
   | _=>none
  | none=>none
 | _=>none
def runIOpD (call:CallT) (o:IOp) (t:T) (H:Heap):Option DEv:=
 match wanted t o.guard with
 | some true=>match o.op with
  | some s=>runOpD call s (narrow t o.see) H
  | none=>none
 | some false=>some ⟨.q,undef,H,H⟩
 | none=>none
def runOpsD (call:CallT) (l:List IOp):T→Heap→Option (T × Heap × List DEv):=
 List.rec (motive:=fun _=>T→Heap→Option (T × Heap × List DEv)) (fun t H=>some (t,H,[]))
  (fun o _ ih t H=>match runIOpD call o t H with
   | some e=>match ih (setT o.dst e.v t) e.a with
    | some (t',H',es)=>some (t',H',e::es)
    | none=>none
   | none=>none) l
def maskOf (acc:List Nat):List Edge→Nat
 | []=>0
 | e::es=>match Region.binds .any e with
  | true=>Nat.lor (Nat.lor (Nat.pow 2 e.on) ((nth acc e.on).getD 0)) (maskOf acc es)
  | false=>maskOf acc es
def masks:List Oper→List Nat→List Nat
 | [],acc=>acc
 | o::os,acc=>masks os (acc++[maskOf acc o.after.toList])
def ordered (before:List Nat) (i j:Nat):Bool:=((nth before (max i j)).getD 0).testBit (min i j)
def edgesOk:List Edge→Nat→Bool
 | [],_=>true
 | e::es,i=>(match Region.binds .any e with
  | true=>Nat.ble (Nat.succ e.on) i
  | false=>true)&&edgesOk es i
def apartWith (ops:Array Oper) (before:List Nat) (x:Oper) (i:Nat):List Oper→Nat→Bool
 | [],_=>true
 | y::ys,j=>(ordered before i j || x.apart ops y)&&apartWith ops before x i ys (Nat.succ j)
def regionOk (ops:Array Oper) (before:List Nat):List Oper→Nat→Bool
 | [],_=>true
 | x::xs,i=>edgesOk x.after.toList i&&apartWith ops before x i xs (Nat.succ i)&&regionOk ops before xs (Nat.succ i)
structure Ac where
 j:Nat
 b:Heap
 a:Heap
def acsOf:List DEv→Nat→List Ac
 | [],_=>[]
 | e::es,j=>match e.k with
  | .a=>⟨j,e.b,e.a⟩::acsOf es (Nat.succ j)
  | _=>acsOf es (Nat.succ j)
def chainOk (before:List Nat) (acs:List Ac):Bool:=acs.all fun e=>acs.all fun e'=>e.j.beq e'.j || ordered before e.j e'.j
def owesBy (before:List Nat) (g:Heap→Option V) (v:V) (i:Nat):List Ac→List (Option V × Option V)
 | []=>[]
 | c::cs=>match ordered before i c.j with
  | true=>owesBy before g v i cs
  | false=>(g c.b,some v)::(g c.a,some v)::owesBy before g v i cs
def owes (before:List Nat) (acs:List Ac):List DEv→Nat→List (Option V × Option V)
 | [],_=>[]
 | e::es,i=>match e.k with
  | .r g=>owesBy before g e.v i acs++owes before acs es (Nat.succ i)
  | _=>owes before acs es (Nat.succ i)
inductive C where
 | skip
 | reg (ops:List IOp)
 | regD (ops:List IOp) (before:List Nat)
 | seq (a b:C)
 | cond (c:S) (a b:C)
 | block (id:Nat) (a:C)
 | loop (a:C)
 | exit (id:Nat)
 | scope (a:C)
 | ret
 | bad
def prepC (P:Program) (n:Nat):Code→C
 | .skip=>.skip
 | .label _=>.skip
 | .region _ ops draw=>match draw with
  | false=>.reg (ops.toList.map (prepOper P n ops))
  | true=>match P.follows .mixedOrders&&regionOk ops (masks ops.toList []) ops.toList 0 with
   | true=>.regD (ops.toList.map (prepOper P n ops)) (masks ops.toList [])
   | false=>.bad
 | .seq a b=>.seq (prepC P n a) (prepC P n b)
 | .cond c a b=>match src P c with
  | some s=>.cond s (prepC P n a) (prepC P n b)
  | none=>.bad
 | .block id a=>.block id (prepC P n a)
 | .loop a=>.loop (prepC P n a)
 | .exit id=>.exit id
 | .scope a=>.scope (prepC P n a)
 | .ret=>.ret
 | .rangeFunc _ _ _ _=>.bad
 | .goto _=>.bad
 | .refuse _=>.bad
def loopF (f:St→Option (X × St)) (n:Nat):St→Option (X × St):=
 Nat.rec (motive:=fun _=>St→Option (X × St)) (fun _=>none) (fun _ ih s=>match f s with
  | some (.n,s')=>ih s'
  | r=>r) n
def runC (call:CallT) (lf:Nat) (c:C):St→Option (X × St):=
 C.rec (motive:=fun _=>St→Option (X × St))
  (fun s=>some (.n,s))
  (fun ops s=>runOps call ops s.t s.H s.d)
  (fun ops before s=>match runOpsD call ops s.t s.H with
   | some (t,H,es)=>match chainOk before (acsOf es 0) with
    | true=>some (.n,⟨t,H.owe (owes before (acsOf es 0) es 0),s.d⟩)
    | false=>none
   | none=>none)
  (fun _ _ iha ihb s=>match iha s with
   | some (.n,s')=>ihb s'
   | r=>r)
  (fun c _ _ iha ihb s=>match c.get s.t with
   | some (.bool true)=>iha s
   | some (.bool false)=>ihb s
   | _=>none)
  (fun id _ ih s=>match ih s with
   | some (.ex id',s')=>match id'.beq id with
    | true=>some (.n,s')
    | false=>some (.ex id',s')
   | r=>r)
  (fun _ ih s=>loopF ih lf s)
  (fun id s=>some (.ex id,s))
  (fun _ ih s=>ih s)
  (fun s=>some (.ret,s))
  (fun _=>none)
  c
inductive R where
 | tmp (p:List Bool)
 | cell (p:List Bool) (sz:Nat) (k:TK)
structure CFn where
 res:List R
 body:C
def prepRes (P:Program):List ResultVar→Option (List R)
 | []=>some []
 | .tmp t::rs=>(prepRes P rs).map (.tmp (Tr.path t)::·)
 | .cell a t::rs=>match sizeT P t,tkT P t with
  | some sz,some k=>(prepRes P rs).map (.cell (Tr.path a) sz k::·)
  | _,_=>none
def prepFn (P:Program) (fn:Func):Option CFn:=
 match fn.body,prepRes P fn.results.toList with
 | some b,some r=>some ⟨r,prepC P fn.ntmps b⟩
 | _,_=>none
def result (t:T) (H:Heap):R→Option V
 | .tmp p=>t.getP p
 | .cell p sz k=>match t.getP p with
  | some (.ptr (some q))=>(loadAt H q sz).bind (unc k)
  | _=>none
def resultsV (t:T) (H:Heap):List R→Option (List V)
 | []=>some []
 | r::rs=>match result t H r with
  | some v=>(resultsV t H rs).map (v::·)
  | none=>none
def tup:List V→V
 | [v]=>v
 | vs=>.tuple vs
def argsT:List V→Nat→T→T
 | [],_,t=>t
 | v::vs,i,t=>argsT vs (Nat.succ i) (t.setP (Tr.path i) v)
abbrev U:=Option (V × Bool)
def recU:U→V × U
 | some (v,false)=>(v,some (v,true))
 | u=>(.nilIface,u)
def settleU:U→U
 | some (_,true)=>none
 | u=>u
def isK:Option OpS→Bool
 | some .rcv=>true
 | _=>false
def runOpsR (call:CallT):List IOp→U→St→Option (X × St × U)
 | [],u,s=>some (.n,s,u)
 | o::l,u,s=>match isK o.op with
  | true=>match wanted s.t o.guard with
   | some true=>runOpsR call l (recU u).2 ⟨setT o.dst (recU u).1 s.t,s.H,s.d⟩
   | some false=>runOpsR call l u ⟨setT o.dst undef s.t,s.H,s.d⟩
   | none=>none
  | false=>match runIOp call (fun t H d=>some (.n,⟨t,H,d⟩)) o s.t s.H s.d with
   | some (.n,s')=>runOpsR call l u s'
   | _=>none
def runCR (call:CallT) (lf:Nat):C→U→St→Option (X × St × U)
 | .reg ops,u,s=>runOpsR call ops u s
 | .seq a b,u,s=>match runCR call lf a u s with
  | some (.n,s',u')=>runCR call lf b u' s'
  | r=>r
 | .cond c a b,u,s=>match c.get s.t with
  | some (.bool true)=>runCR call lf a u s
  | some (.bool false)=>runCR call lf b u s
  | _=>none
 | c,u,s=>match runC call lf c s with
  | some (x,s')=>some (x,s',u)
  | none=>none
def fnOf (P:Program) (f:FuncId):Option CFn:=
 match P.funcs[f]? with
 | some fn => match fn.name == "runtime.NumGoroutine" with
  | true=>none
  | false=>prepFn P fn
 | none=>none
def isEnd:X→Bool
 | .n=>true
 | .ret=>true
 | _=>false
def runDef (P:Program) (call:CallT) (lf:Nat) (id:FuncId) (args:List V) (u:U) (H:Heap):Option (U × Heap):=
 match fnOf P id with
 | some fn=>match runCR call lf fn.body u ⟨argsT args 0 .e,H,[]⟩ with
  | some (x,s,u')=>match s.d,isEnd x,resultsV s.t s.H fn.res with
   | [],true,some _=>some (u',s.H)
   | _,_,_=>none
  | none=>none
 | none=>none
def leave (P:Program) (call:CallT) (lf:Nat):List (FuncId × List V)→U→Heap→Option (U × Heap)
 | [],u,H=>some (u,H)
 | (id,args)::ds,u,H=>match runDef P call lf id args u H with
  | some (u',H')=>leave P call lf ds (settleU u') H'
  | none=>none
def endF (res:List R) (t:T):Option (U × Heap)→Option (Rs × Heap)
 | some (none,H)=>match resultsV t H res with
  | some vs=>some (.v (tup vs),H)
  | none=>none
 | some (some (v,false),H)=>some (.p v,H)
 | _=>none
def runF (P:Program) (call:CallT) (lf:Nat) (fn:CFn) (args:List V) (H:Heap):Option (Rs × Heap):=
 match runC call lf fn.body ⟨argsT args 0 .e,H,[]⟩ with
 | some (x,s)=>match x with
  | .n=>endF fn.res s.t (leave P call lf s.d none s.H)
  | .ret=>endF fn.res s.t (leave P call lf s.d none s.H)
  | .pan v=>endF fn.res s.t (leave P call lf s.d (some (v,false)) s.H)
  | .ex _=>none
 | none=>none
end
end Go.Am
