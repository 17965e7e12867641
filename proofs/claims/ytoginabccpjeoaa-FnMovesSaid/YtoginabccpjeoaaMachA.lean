/- A part of a proof about the given program: an abstract machine, what the given functions come to, and plain laws. -/
import GoSem.Step
import GoSem.ClaimKeys
import Derived.KernelRfl
set_option linter.unusedVariables false
set_option linter.unusedSimpArgs false
namespace Go.AM
def loudL:List Nat:=[97,103,114,115,121,122,123,124,160,182,187,192,197,206,207,214,215]
def loudIn (n:Nat):List Nat->Bool
 | []=>false
 | m::ms=>cond (Nat.beq n m) true (loudIn n ms)
def loudF (f:Nat):Bool:=loudIn f loudL
end Go.AM
namespace Go.AM
structure Key where
 b:Nat
 r:Nat
 deriving DecidableEq
abbrev topK (b:Nat):Key:=⟨b,0⟩
abbrev rowK (b r:Nat):Key:=⟨b,r+1⟩
structure Place where
 b:Key
 s:Nat
 o:Nat
 n:Nat
inductive AV where
 | undef
 | bool (b:Bool)
 | int (k:IntKind) (n:Int)
 | str (s:List UInt8)
 | ptr (p:Place)
 | slice (p:Place) (len cap es:Nat) (ex:Bool)
 | nils
 | func (f:FuncId) (caps:List AV)
 | ints (k:IntKind) (n:Nat) (f:Nat->Int)
 | vec (k:IntKind) (xs:List Int)
 | bools (n:Nat) (f:Nat->Bool)
 | vals (vs:List AV)
 | agg (ss:List AV)
 | tuple (vs:List AV)
 | recs (ks:List (Option IntKind)) (xs:List Int)
 | rptr (p:Place) (c:Nat)
 | pool (k:IntKind) (rows:List (List Int))
 | hdr (b:Nat) (ids:List (Nat×Nat))
 | strs (xs:List (List UInt8))
 deriving Inhabited
abbrev Blk:=List AV
abbrev Heap:=List Blk
structure St where
 t:List AV
 h:Heap
inductive AExit where
 | normal
 | exit (id:Nat)
 | ret
section basics
def br {α:Type}(b:Bool)(x y:Option α):Option α:=match b with
 | true=>x
 | false=>y
def upd {β:Type}(f:Nat->β)(i:Nat)(v:β):Nat->β:=fun j=>cond (Nat.beq j i) v (f j)
def addO:Nat->Nat->Nat
 | 0,x=>x
 | o+1,x=>(o+1)+x
def mulS (x:Nat):Nat->Nat
 | 1=>x
 | m=>x*m
def shiftF {β:Type}(f:Nat->β):Nat->(Nat->β)
 | 0=>f
 | o+1=>fun j=>f ((o+1)+j)
def segLen:AV->Nat
 | .ints _ n _=>n
 | .vec _ xs=>xs.length
 | .bools n _=>n
 | .vals vs=>vs.length
 | .recs _ xs=>xs.length
 | .hdr _ ids=>ids.length
 | .strs xs=>xs.length
 | _=>0
def isPool:Blk->Bool
 | [.pool _ _]=>true
 | _=>false
def poolOf:Blk->Option (IntKind×List (List Int))
 | [.pool k rows]=>some (k,rows)
 | _=>none
def blk? (h:Heap)(κ:Key):Option Blk:=match κ.r with
 | 0=>match h[κ.b]? with
  | some x=>cond (isPool x) none (some x)
  | none=>none
 | r+1=>match h[κ.b]? with
  | some x=>match poolOf x with
   | some (k,rows)=>match rows[r]? with
    | some xs=>some [.vec k xs]
    | none=>none
   | none=>none
  | none=>none
def blkD (h:Heap)(κ:Key):Blk:=match κ.r with
 | 0=>match h[κ.b]? with
  | some x=>cond (isPool x) [] x
  | none=>[]
 | r+1=>match h[κ.b]? with
  | some x=>match poolOf x with
   | some (k,rows)=>[.vec k (rows.getD r [])]
   | none=>[]
  | none=>[]
def setB (h:Heap)(κ:Key)(x:Blk):Heap:=match κ.r with
 | 0=>h.set κ.b x
 | r+1=>match poolOf (h.getD κ.b []),x with
  | some (k,rows),[.vec _ xs]=>h.set κ.b [.pool k (rows.set r xs)]
  | _,_=>h
def getSeg (h:Heap)(b:Key)(s:Nat):AV:=(blkD h b).getD s .undef
def setSeg (h:Heap)(b:Key)(s:Nat)(v:AV):Heap:=setB h b ((blkD h b).set s v)
def isOne:AV->Bool
 | .bool _ | .int _ _ | .str _ | .ptr _ | .slice .. | .nils | .func .. | .rptr ..=>true
 | _=>false
def kmin:IntKind->Int
 | .i8=>-128 | .i16=>-32768 | .i32=>-2147483648 | .i64=>-9223372036854775808
 | _=>0
def kmax:IntKind->Int
 | .i8=>127 | .i16=>32767 | .i32=>2147483647 | .i64=>9223372036854775807
 | .u8=>255 | .u16=>65535 | .u32=>4294967295 | .u64=>18446744073709551615
def kmod:IntKind->Int
 | .i8 | .u8=>256 | .i16 | .u16=>65536 | .i32 | .u32=>4294967296 | .i64 | .u64=>18446744073709551616
def kbits:IntKind->Nat
 | .i8 | .u8=>8 | .i16 | .u16=>16 | .i32 | .u32=>32 | .i64 | .u64=>64
def signed:IntKind->Bool
 | .i8 | .i16 | .i32 | .i64=>true
 | _=>false
def keq:IntKind->IntKind->Bool
 | .i8,.i8 | .i16,.i16 | .i32,.i32 | .i64,.i64 | .u8,.u8 | .u16,.u16 | .u32,.u32 | .u64,.u64=>true
 | _,_=>false
def fits (k:IntKind)(x:Int):Bool:=
 match x with
 | .ofNat n=>Nat.ble n (kmax k).toNat
 | .negSucc n=>signed k&&Nat.ble n (kmax k).toNat
def wider (k k':IntKind):Bool:=decide (kmin k'<=kmin k)&&decide (kmax k<=kmax k')
def bitJ (op:BinOp)(k:IntKind)(a b:Int):Int:=
 match op with
 | .and=>k.wrap (BitVec.ofInt k.bits a &&& BitVec.ofInt k.bits b).toNat
 | .or=>k.wrap (BitVec.ofInt k.bits a ||| BitVec.ofInt k.bits b).toNat
 | .xor=>k.wrap (BitVec.ofInt k.bits a ^^^ BitVec.ofInt k.bits b).toNat
 | _=>k.wrap (BitVec.ofInt k.bits a &&& ~~~ (BitVec.ofInt k.bits b)).toNat
def bitI (op:BinOp)(k:IntKind)(a b:Int):Int:=
 match a with
 | .ofNat n=>bitJ op k (.ofNat n) b
 | .negSucc n=>bitJ op k (.negSucc n) b
theorem q000 (op:BinOp)(k:IntKind)(a b:Int):bitI op k a b=bitJ op k a b:=by cases a<;>rfl
def shlI (a b:Int):Int:=a*2 ^ b.toNat
def shrI (a b:Int):Int:=a.fdiv (2 ^ b.toNat)
def wrapU (k:IntKind)(x:Int):Int:=x%kmod k
def toKind {α:Type}(k:IntKind)(x:Int)(K:AV->Option α):Option α:=
 match k with
 | .i8 | .i16 | .i32 | .i64=>br (fits k x) (K (.int k x)) none
 | _=>K (.int k (wrapU k x))
end basics
section types
variable (P:Program)
def hom:Nat->TypeId->Option (IntKind×Nat)
 | 0,_=>none
 | d+1,t=>match P.underlying t with
  | some (.int k)=>some (k,1)
  | some (.array n e)=>match hom d e with
   | some (k,m)=>some (k,n*m)
   | none=>none
  | some (.struct fs)=>homs fs.toList (fun t=>hom d t)
  | _=>none
where
 homs:List Field->(TypeId->Option (IntKind×Nat))->Option (IntKind×Nat)
  | [],_=>none
  | [f],g=>g f.type
  | f::f'::rest,g=>match g f.type,homs (f'::rest) g with
   | some (k,n),some (k',m)=>cond (keq k k') (some (k,n+m)) none
   | _,_=>none
def homT (t:TypeId):Option (IntKind×Nat):=
 match hom P 8 t with
 | some (k,m)=>cond (Nat.beq (P.cellsOf t) m) (some (k,m)) none
 | none=>none
def isBoolArr (t:TypeId):Option Nat:=
 match P.underlying t with
 | some (.array n e)=>match P.underlying e with
  | some .bool=>some n
  | _=>none
 | _=>none
def joinVals:List AV->List AV->List AV
 | [.vals a],.vals b::rest=>.vals (a++b)::rest
 | [],l=>l
 | [x],l=>x::l
 | x::y::l,m=>x::joinVals (y::l) m
def repSegs (ss:List AV):Nat->List AV
 | 0=>[]
 | n+1=>joinVals ss (repSegs ss n)
def zeroSegs:Nat->TypeId->Option (List AV)
 | 0,_=>none
 | d+1,t=>match P.underlying t with
  | some (.int k)=>some [.vals [.int k 0]]
  | some .bool=>some [.vals [.bool false]]
  | some .string=>some [.vals [.str []]]
  | some (.slice _)=>some [.vals [.nils]]
  | some (.array n e)=>match homT P t with
   | some (k,m)=>some [.ints k m (fun _=>0)]
   | none=>match P.underlying e with
    | some .bool=>some [.bools n (fun _=>false)]
    | _=>match zeroSegs d e with
     | some ss=>some (repSegs ss n)
     | none=>none
  | some (.struct fs)=>match homT P t with
   | some (k,m)=>some [.ints k m (fun _=>0)]
   | none=>fs.toList.foldr (fun f acc=>match zeroSegs d f.type,acc with
    | some ss,some r=>some (joinVals ss r)
    | _,_=>none) (some [])
  | _=>none
def sameVal:AV->Value->Bool
 | .int k n,.int k' m=>keq k k'&&(n==m)&&fits k n
 | .bool b,.bool c=>b==c
 | .str s,.string x=>match s,x.data.toList with
  | [],[]=>true
  | _,_=>false
 | .nils,.slice none 0 0=>true
 | _,_=>false
def sameVals:List AV->List Value->Bool
 | [],[]=>true
 | v::vs,c::cs=>cond (sameVal v c) (sameVals vs cs) false
 | _,_=>false
def convC:Option IntKind->Int->AV
 | some k,n=>.int k n
 | none,n=>.bool (n != 0)
def unconv:Option IntKind->AV->Option Int
 | some k,.int k' n=>cond (keq k k') (some n) none
 | none,.bool b=>some (cond b 1 0)
 | _,_=>none
def toRec:List (Option IntKind)->List AV->Option (List Int)
 | [],[]=>some []
 | k::ks,v::vs=>match unconv k v,toRec ks vs with
  | some n,some r=>some (n::r)
  | _,_=>none
 | _,_=>none
def recVals (ks:List (Option IntKind))(xs:List Int):List AV:=(List.range xs.length).map fun i=>convC (ks.getD (i%ks.length) none) (xs.getD i 0)
def recCells:List (Option IntKind)->List Int->Nat->Nat->List AV
 | [],_,_,_=>[]
 | k::ks,xs,o,j=>convC k (xs.getD (addO o j) 0)::recCells ks xs o (j+1)
def idCell (b:Nat)(q:Nat×Nat):AV:=.slice ⟨rowK b q.1,0,0,q.2⟩ q.2 q.2 1 false
def segValsOf:AV->List AV
 | .ints k n f=>(List.range n).map fun i=>.int k (f i)
 | .vec k xs=>xs.map (.int k)
 | .bools n f=>(List.range n).map fun i=>.bool (f i)
 | .vals vs=>vs
 | .recs ks xs=>recVals ks xs
 | .hdr b ids=>ids.map (idCell b)
 | .strs xs=>xs.map .str
 | _=>[]
def zeroOf (t:TypeId):Option (List AV):=
 match zeroSegs P 8 t,(P.info? t).bind (·.zero) with
 | some ss,some z=>cond (sameVals (ss.flatMap segValsOf) z.cells.toList) (some ss) none
 | _,_=>none
def locate:List AV->Nat->Option (Nat×Nat×Nat)
 | [],_=>none
 | s::rest,o=>cond (Nat.blt o (segLen s)) (some (0,o,segLen s)) (match locate rest (o-segLen s) with
  | some (i,r,n)=>some (i+1,r,n)
  | none=>none)
def movePlace {α:Type}(h:Heap)(p:Place)(off:Nat)(same:Bool)(K:Place->Option α):Option α:=
 br same (K { p with o:=addO p.o off })
  (br (Nat.beq p.n (segLen (getSeg h p.b p.s))) (match locate ((blkD h p.b).drop p.s) (p.o+off) with
  | some (i,r,n)=>K ⟨p.b,p.s+i,r,n⟩
  | none=>none) none)
end types
def lenOf (ss:List AV):Nat:=(ss.map segLen).sum
section memory
variable {α:Type} (P:Program)
def loadCell (p:Place)(h:Heap)(K:AV->Option α):Option α:=
 match getSeg h p.b p.s with
 | .ints k n f=>br (Nat.beq p.n n&&Nat.blt p.o n) (K (.int k (f p.o))) none
 | .vec k xs=>br (Nat.beq p.n xs.length&&Nat.blt p.o xs.length) (K (.int k (xs.getD p.o 0))) none
 | .bools n f=>br (Nat.beq p.n n&&Nat.blt p.o n) (K (.bool (f p.o))) none
 | .vals vs=>br (Nat.beq p.n vs.length) (match vs.getD p.o .undef with
  | .undef=>none
  | v=>K v) none
 | .hdr b ids=>br (Nat.beq p.n ids.length&&Nat.blt p.o ids.length) (K (idCell b (ids.getD p.o (0,0)))) none
 | .strs xs=>br (Nat.beq p.n xs.length&&Nat.blt p.o xs.length) (K (.str (xs.getD p.o []))) none
 | _=>none
def takeSegs:List AV->Nat->Option (List AV)
 | _,0=>some []
 | [],_+1=>none
 | s::rest,n+1=>cond (Nat.ble (segLen s) (n+1)&&Nat.blt 0 (segLen s)) (match takeSegs rest (n+1-segLen s) with
  | some r=>some (s::r)
  | none=>none) none
def loadAgg (t:TypeId)(p:Place)(h:Heap)(K:AV->Option α):Option α:=
 match homT P t with
 | some (k,m)=>match getSeg h p.b p.s with
  | .ints k' n f=>br (keq k k'&&Nat.beq p.n n&&Nat.ble (p.o+m) n) (K (.agg [.ints k m (shiftF f p.o)])) none
  | .vec k' xs=>br (keq k k'&&Nat.beq p.n xs.length&&Nat.ble (p.o+m) xs.length) (K (.agg [.ints k m (fun j=>xs.getD (addO p.o j) 0)])) none
  | _=>none
 | none=>match getSeg h p.b p.s with
  | .recs ks xs=>br (Nat.beq p.n xs.length&&(Nat.beq (P.cellsOf t) ks.length&&(Nat.beq (p.o%ks.length) 0&&Nat.ble (p.o+ks.length) xs.length))) (K (.agg [.vals (recCells ks xs p.o 0)])) none
  | _=>match p.o with
   | 0=>match takeSegs ((blkD h p.b).drop p.s) (P.cellsOf t) with
    | some ss=>br (Nat.beq p.n (segLen (getSeg h p.b p.s))) (K (.agg ss)) none
    | none=>loadVals t p h K
   | _+1=>loadVals t p h K
where
 loadVals (t:TypeId) (p:Place) (h:Heap) (K:AV->Option α):Option α:=
  match getSeg h p.b p.s with
  | .vals vs=>br (Nat.beq p.n vs.length&&Nat.ble (p.o+P.cellsOf t) vs.length) (K (.agg [.vals ((vs.drop p.o).take (P.cellsOf t))])) none
  | _=>none
def loadAt (t:TypeId)(p:Place)(h:Heap)(K:AV->Option α):Option α:=
 match P.underlying t with
 | some (.struct _)=>loadAgg P t p h K
 | some (.array _ _)=>loadAgg P t p h K
 | some _=>loadCell p h K
 | none=>none
def loadRec (t:TypeId)(p:Place)(c:Nat)(h:Heap)(K:AV->Option α):Option α:=
 match P.underlying t with
 | some (.struct _)=>none
 | some (.array _ _)=>none
 | some _=>match getSeg h p.b p.s with
  | .recs ks xs=>br (Nat.beq p.n xs.length&&(Nat.blt c ks.length&&(Nat.beq (p.o%ks.length) 0&&Nat.ble (p.o+ks.length) xs.length))) (K (convC (ks.getD c none) (xs.getD (addO p.o c) 0))) none
  | _=>none
 | none=>none
def storeRec (ro:Nat)(p:Place)(c:Nat)(v:AV)(h:Heap)(K:Heap->Option α):Option α:=
 br (Nat.ble ro p.b.b) (match getSeg h p.b p.s with
 | .recs ks xs=>match unconv (ks.getD c none) v with
  | some n=>br (Nat.beq p.n xs.length&&(Nat.blt c ks.length&&(Nat.beq (p.o%ks.length) 0&&Nat.ble (p.o+ks.length) xs.length))) (K (setSeg h p.b p.s (.recs ks (xs.set (addO p.o c) n)))) none
  | none=>none
 | _=>none) none
def storeCell (ro:Nat)(p:Place)(v:AV)(h:Heap)(K:Heap->Option α):Option α:=
 br (Nat.ble ro p.b.b) (match getSeg h p.b p.s with
 | .ints k n f=>match v with
  | .int k' x=>br (keq k k'&&Nat.beq p.n n&&Nat.blt p.o n) (K (setSeg h p.b p.s (.ints k n (upd f p.o x)))) none
  | _=>none
 | .vec k xs=>match v with
  | .int k' x=>br (keq k k'&&Nat.beq p.n xs.length&&Nat.blt p.o xs.length) (K (setSeg h p.b p.s (.vec k (xs.set p.o x)))) none
  | _=>none
 | .bools n f=>match v with
  | .bool x=>br (Nat.beq p.n n&&Nat.blt p.o n) (K (setSeg h p.b p.s (.bools n (upd f p.o x)))) none
  | _=>none
 | .vals vs=>br (isOne v&&Nat.beq p.n vs.length&&Nat.blt p.o vs.length) (K (setSeg h p.b p.s (.vals (vs.set p.o v)))) none
 | .hdr b ids=>match v with
  | .slice q len cap es ex=>match q.b.r with
   | r+1=>br (!ex&&(Nat.beq p.n ids.length&&Nat.blt p.o ids.length&&(Nat.beq q.b.b b&&(Nat.beq q.s 0&&(Nat.beq q.o 0&&(Nat.beq len q.n&&(Nat.beq es 1&&Nat.beq cap len))))))) (K (setSeg h p.b p.s (.hdr b (ids.set p.o (r,len))))) none
   | 0=>none
  | _=>none
 | .strs xs=>match v with
  | .str x=>br (Nat.beq p.n xs.length&&Nat.blt p.o xs.length) (K (setSeg h p.b p.s (.strs (xs.set p.o x)))) none
  | _=>none
 | _=>none) none
def allB {β:Type}(f:β->Bool):List β->Bool
 | []=>true
 | x::xs=>cond (f x) (allB f xs) false
def onesB (ss:List AV):Bool:=allB (fun s=>match s with
 | .vals vs=>allB isOne vs
 | _=>true) ss
def segK:AV->Nat
 | .recs ..=>1
 | .hdr ..=>2
 | .strs ..=>3
 | .pool ..=>4
 | _=>0
def isRec (s:AV):Bool:=Nat.beq (segK s) 1
def oneSeg (s:AV):Bool:=Nat.blt 0 (segK s)
def sameRec (a b:AV):Bool:=Nat.beq (segK a) (segK b)
def replaceSegs:List AV->List AV->Option (List AV)
 | l,[]=>some l
 | [],_::_=>none
 | s::l,s'::ss=>cond (Nat.beq (segLen s) (segLen s')&&(Nat.blt 0 (segLen s)&&sameRec s s')) (match replaceSegs l ss with
  | some r=>some (s'::r)
  | none=>none) none
def spliceF {β:Type}(f:Nat->β)(o m:Nat)(g:Nat->β):Nat->β:=fun j=>cond (Nat.ble o j&&Nat.blt j (o+m)) (g (j-o)) (f j)
def chooseF {β:Type}(b:Bool)(f g:Nat->β):Nat->β:=cond b f g
def chooseL {β:Type}(b:Bool)(f g:List β):List β:=cond b f g
def storeAgg (ro:Nat)(p:Place)(ss:List AV)(h:Heap)(K:Heap->Option α):Option α:=
 br (Nat.ble ro p.b.b&&onesB ss) (match getSeg h p.b p.s,ss with
 | .ints k n f,[.ints k' m g]=>br (keq k k'&&Nat.beq p.n n&&Nat.ble (p.o+m) n) (K (setSeg h p.b p.s (.ints k n (chooseF (Nat.beq m n) g (spliceF f p.o m g))))) none
 | _,_=>match p.o,replaceSegs ((blkD h p.b).drop p.s) ss with
  | 0,some r=>br (Nat.beq p.b.r 0&&Nat.beq p.n (segLen (getSeg h p.b p.s))) (K (setB h p.b ((blkD h p.b).take p.s++r))) none
  | _,_=>match getSeg h p.b p.s,ss with
   | .vec k xs,[.ints k' m g]=>br (keq k k'&&Nat.beq p.n xs.length&&Nat.ble (p.o+m) xs.length) (K (setSeg h p.b p.s (.vec k (xs.take p.o++((List.range m).map g++xs.drop (p.o+m)))))) none
   | .vals vs,[.vals us]=>br (Nat.beq p.n vs.length&&Nat.ble (p.o+us.length) vs.length) (K (setSeg h p.b p.s (.vals (vs.take p.o++(us++vs.drop (p.o+us.length)))))) none
   | _,_=>none) none
def storeRow (ro:Nat)(p:Place)(ss:List AV)(h:Heap)(K:Heap->Option α):Option α:=
 match getSeg h p.b p.s with
 | .recs ks xs=>br (Nat.ble ro p.b.b) (match toRec ks (ss.flatMap segValsOf) with
  | some ys=>br (Nat.beq p.n xs.length&&(Nat.beq (p.o%ks.length) 0&&Nat.ble (p.o+ys.length) xs.length)) (K (setSeg h p.b p.s (.recs ks (chooseL (Nat.beq ys.length xs.length) ys (xs.take p.o++(ys++xs.drop (p.o+ys.length))))))) none
  | none=>none) none
 | _=>storeAgg ro p ss h K
def storeAt (ro:Nat)(p:Place)(v:AV)(h:Heap)(K:Heap->Option α):Option α:=
 match v with
 | .agg ss=>storeRow ro p ss h K
 | v=>storeCell ro p v h K
def cellsIn:AV->Nat
 | .agg ss=>lenOf ss
 | _=>1
def newPlace (h:Heap)(x:Blk):Place:=⟨topK h.length,0,0,segLen (x.getD 0 .undef)⟩
def segsOf:AV->List AV
 | .agg ss=>ss
 | v=>[.vals [v]]
end memory
section ops
variable {α:Type} (P:Program)
def ofValue:Value->AV
 | .bool b=>.bool b
 | .int k n=>cond (fits k n) (.int k n) .undef
 | .string s=>.str s.data.toList
 | .slice none _ _=>.nils
 | .func (.func f) _ _=>.func f []
 | _=>.undef
def evalO (t:List AV):Operand->AV
 | .tmp i=>t.getD i .undef
 | .const v=>match v with
  | .slice none 0 0=>.nils
  | .slice ..=>.undef
  | .func ..=>.undef
  | v=>ofValue v
 | .func f=>.func f []
 | .global _=>.undef
def elemSize (t:TypeId):Nat:=P.cellsOf t
def flatElem (e:TypeId):Bool:=
 match homT P e with
 | some _=>true
 | none=>match P.underlying e with
  | some .bool=>true
  | _=>false
def goBin (op:BinOp)(x y:AV)(K:AV->Option α):Option α:=
 match x,y with
 | .int k a,.int k' b=>match op with
  | .shl=>br (decide (0<=b)&&decide (b<kbits k)) (toKind k (shlI a b) K) none
  | .shr=>br (decide (0<=b)&&decide (b<kbits k)) (K (.int k (shrI a b))) none
  | op=>br (keq k k') (match op with
   | .add=>toKind k (a+b) K
   | .sub=>toKind k (a-b) K
   | .mul=>toKind k (a*b) K
   | .quo=>br (!(b==0)) (toKind k (a.tdiv b) K) none
   | .rem=>br (!(b==0)) (K (.int k (a.tmod b))) none
   | .and=>K (.int k (bitI .and k a b))
   | .or=>K (.int k (bitI .or k a b))
   | .xor=>K (.int k (bitI .xor k a b))
   | .andNot=>K (.int k (bitI .andNot k a b))
   | .eql=>K (.bool (a==b))
   | .neq=>K (.bool (a != b))
   | .lss=>K (.bool (decide (a<b)))
   | .leq=>K (.bool (decide (a<=b)))
   | .gtr=>K (.bool (decide (b<a)))
   | .geq=>K (.bool (decide (b<=a)))
   | _=>none) none
 | .str a,.str b=>match op with
  | .add=>br (Nat.ble (a.length+b.length) 9223372036854775807) (K (.str (a++b))) none
  | .eql=>K (.bool (a==b))
  | .neq=>K (.bool (a != b))
  | _=>none
 | _,_=>none
def kindsL:List AV->Option (List (Option IntKind))
 | []=>some []
 | .int k _::r=>match kindsL r with
  | some ks=>some (some k::ks)
  | none=>none
 | .bool _::r=>match kindsL r with
  | some ks=>some (none::ks)
  | none=>none
 | _::_=>none
def keqO:Option IntKind->Option IntKind->Bool
 | some a,some b=>keq a b
 | none,none=>true
 | _,_=>false
def sameKinds:List (Option IntKind)->List (Option IntKind)->Bool
 | [],[]=>true
 | a::as,b::bs=>cond (keqO a b) (sameKinds as bs) false
 | _,_=>false
def oneTruth:Bool->List (Option IntKind)->Bool
 | _,[]=>true
 | q,some _::r=>oneTruth q r
 | q,none::r=>cond q false (oneTruth true r)
def probe:Nat->List (Option IntKind)->List Value
 | _,[]=>[]
 | i,some k::ks=>.int k (i:Int)::probe (i+1) ks
 | i,none::ks=>.bool false::probe (i+1) ks
def litsB:Nat->List (Option IntKind)->List Lit->Bool
 | _,[],[]=>true
 | i,some k::ks,.int k' n::ls=>cond (keq k k'&&(n==(i:Int))) (litsB (i+1) ks ls) false
 | i,none::ks,.bool _::ls=>litsB (i+1) ks ls
 | _,_,_=>false
def eqOk (t:TypeId)(ks:List (Option IntKind)):Bool:=
 Nat.beq (P.cellsOf t) ks.length&&(oneTruth false ks&&P.keyTypeAt 9 t&&(!(P.eqGuardType P.depth t)&&((match P.underlying t with
 | some (.struct _)=>true
 | some (.array _ _)=>true
 | _=>false)&&match P.keyLits 9 t (probe 0 ks) with
 | some l=>litsB 0 ks l
 | none=>false)))
def eqCellsK:List AV->List AV->(Bool->Option α)->Option α
 | .int _ a::as,.int _ b::bs,K=>eqCellsK as bs fun r=>K ((a==b)&&r)
 | .bool a::as,.bool b::bs,K=>eqCellsK as bs fun r=>K ((a==b)&&r)
 | [],[],K=>K true
 | _,_,_=>none
def goEqAgg (t:TypeId)(ss ss':List AV)(K:Bool->Option α):Option α:=
 match kindsL (ss.flatMap segValsOf),kindsL (ss'.flatMap segValsOf) with
 | some ks,some ks'=>br (sameKinds ks ks'&&eqOk P t ks) (eqCellsK (ss.flatMap segValsOf) (ss'.flatMap segValsOf) K) none
 | _,_=>none
def goUn (op:UnOp)(x:AV)(K:AV->Option α):Option α:=
 match op,x with
 | .not,.bool b=>K (.bool (!b))
 | .neg,.int k n=>toKind k (-n) K
 | _,_=>none
def goConvert (src dst:TypeId)(x:AV)(K:AV->Option α):Option α:=
 match P.underlying src,P.underlying dst,x with
 | some _,some (.int k'),.int k n=>br (wider k k') (K (.int k' n)) (toKind k' n K)
 | some .string,some .string,.str s=>K (.str s)
 | _,_,_=>none
def optInt (d:Int):Option AV->Option Int
 | none=>some d
 | some (.int _ n)=>some n
 | _=>none
def goSliceB (len cap:Nat)(lo hi mx:Option AV)(K:Nat->Nat->Nat->Option α):Option α:=
 match optInt cap mx,optInt len hi,optInt 0 lo with
 | some m,some h,some l=>br (decide (0<=l)&&decide (l<=h)&&decide (h<=m)&&decide (m<=cap)) (K l.toNat h.toNat m.toNat) none
 | _,_,_=>none
def offS (m:Nat):Nat->Nat->Nat
 | 0,_=>0
 | l+1,k=>cond (Nat.beq m (l+1)) 0 (mulS (l+1) k)
def goSlice (t:TypeId)(x:AV)(lo hi mx:Option AV)(h:Heap)(K:AV->Option α):Option α:=
 match P.underlying t with
 | some (.array n e)=>match x with
  | .ptr p=>br (Nat.blt 0 (elemSize P e)) (goSliceB n n lo hi mx fun l hh m=>
   K (.slice { p with o:=addO p.o (offS m l (elemSize P e)) } (hh-l) (m-l) (elemSize P e) true)) none
  | _=>none
 | some (.slice e)=>match x with
  | .slice p len cap es ex=>br (Nat.beq p.n (segLen (getSeg h p.b p.s))&&(Nat.blt 0 (elemSize P e)&&Nat.beq es (elemSize P e))) (goSliceB len cap lo hi mx fun l hh m=>
   br (Nat.beq l 0) (K (.slice p (hh-l) (m-l) es (ex||mx.isSome))) (br (ex||mx.isSome||(Nat.blt l m)) (K (.slice { p with o:=addO p.o (offS m l es) } (hh-l) (m-l) es (ex||mx.isSome)))
    (br (Nat.blt 0 p.n) (K (.slice { p with n:=p.n-1 } (hh-l) (m-l) es false)) none))) none
  | .nils=>br (Nat.blt 0 (elemSize P e)) (goSliceB 0 0 lo hi mx fun _ _ _=>K .nils) none
  | _=>none
 | _=>none
def goIndexAddr (t:TypeId)(x i:AV)(h:Heap)(K:AV->Option α):Option α:=
 match i with
 | .int _ i=>match P.underlying t,x with
  | some (.array n e),.ptr p=>br (Nat.blt 0 (elemSize P e)&&(decide (0<=i)&&decide (i<n))) (movePlace h p (mulS i.toNat (elemSize P e)) (flatElem P e) fun q=>K (.ptr q)) none
  | some (.slice e),.slice p len _ _ _=>br (Nat.beq p.n (segLen (getSeg h p.b p.s))&&(Nat.blt 0 (elemSize P e)&&(decide (0<=i)&&decide (i<len)))) (movePlace h p (mulS i.toNat (elemSize P e)) (flatElem P e||oneSeg (getSeg h p.b p.s)) fun q=>K (.ptr q)) none
  | _,_=>none
 | _=>none
def goFieldAddr (t:TypeId)(x:AV)(f:Nat)(h:Heap)(K:AV->Option α):Option α:=
 match P.underlying t,x with
 | some (.struct fs),.ptr p=>match fs[f]? with
  | some fd=>br (Nat.blt 0 (P.cellsOf fd.type)) (match isRec (getSeg h p.b p.s) with
   | true=>br (Nat.beq p.n (segLen (getSeg h p.b p.s))) (K (.rptr p fd.offset)) none
   | false=>movePlace h p fd.offset (homT P t).isSome fun q=>K (.ptr q)) none
  | none=>none
 | _,_=>none
def fillParts (place:Nat->Option (Nat×Nat))(same:Bool):List (Nat×AV)->Blk->(Blk->Option α)->Option α
 | [],blk,K=>K blk
 | (i,v)::rest,blk,K=>match place i with
  | some (off,size)=>br (Nat.blt 0 size&&Nat.beq size (cellsIn v)) (movePlace [blk] (newPlace [] blk) off same fun q=>
   storeAt 0 q v [blk] fun h=>fillParts place same rest (h.getD 0 []) K) none
  | none=>none
def goBuild (t:TypeId)(parts:List (Nat×AV))(K:AV->Option α):Option α:=
 match zeroOf P t,P.underlying t with
 | some z,some (.struct fs)=>match fs.toList.mapM (fun f=>(P.info? f.type).map fun i=>(f.offset,i.size)) with
  | some places=>fillParts (places.toArray[·]?) (homT P t).isSome parts z fun blk=>K (.agg blk)
  | none=>none
 | some z,some (.array _ e)=>match P.info? e with
  | some ie=>fillParts (fun i=>some (i*ie.size,ie.size)) (homT P t).isSome parts z fun blk=>K (.agg blk)
  | none=>none
 | _,_=>none
def isInt0 (k:IntKind):AV->Bool
 | .int k' n=>keq k k'&&(n==0)
 | _=>false
def kindsO:List AV->Option (List (Option IntKind))
 | []=>some []
 | .int k n::r=>match kindsO r with
  | some ks=>cond (n==0) (some (some k::ks)) none
  | none=>none
 | .bool b::r=>match kindsO r with
  | some ks=>cond b none (some (none::ks))
  | none=>none
 | _::_=>none
def zeroRow (lit:Bool)(e:TypeId)(n:Nat):Option Blk:=
 match zeroOf P e with
 | some ss=>cond (Nat.beq (ss.flatMap segValsOf).length (P.cellsOf e)) (match homT P e,ss.flatMap segValsOf with
  | some (k,m),fl=>cond (allB (isInt0 k) fl) (some [cond lit (.vec k (List.replicate (n*m) 0)) (.ints k (mulS n m) (fun _=>0))]) none
  | none,[.bool false]=>some [.bools n (fun _=>false)]
  | none,[.str []]=>some [.strs (List.replicate n [])]
  | none,fl=>match kindsO fl with
   | some ks=>some [.recs ks (List.replicate (n*ks.length) 0)]
   | none=>some [.vals ((List.replicate n fl).flatten)]) none
 | none=>none
def tableK (e:TypeId):Option IntKind:=
 match P.underlying e with
 | some (.slice e2)=>match homT P e2 with
  | some (k,1)=>some k
  | _=>none
 | _=>none
def newTable (h:Heap)(k:IntKind)(l c:Nat)(K:AV->Heap->Option α):Option α:=
 K (.slice ⟨topK (h.length+1),0,0,c⟩ l c 1 true) (h++[[.pool k (List.replicate c [])],[.hdr h.length ((List.range c).map fun i=>(i,0))]])
def tableOf (e:TypeId):List (Nat×AV)->Option IntKind
 | []=>match zeroOf P e with
  | some [.vals [.nils]]=>cond (Nat.beq (elemSize P e) 1) (tableK P e) none
  | _=>none
 | _::_=>none
def goBuildSlice (t:TypeId)(len:Nat)(parts:List (Nat×AV))(h:Heap)(K:AV->Heap->Option α):Option α:=
 match P.underlying t with
 | some (.slice e)=>match tableOf P e parts with
  | some k=>br (Nat.ble len 65536) (newTable h k len len K) none
  | none=>match zeroRow P true e len with
  | some z=>br (Nat.ble (len*elemSize P e) 65536&&Nat.blt 0 (elemSize P e)) (fillParts (fun i=>some (i*elemSize P e,elemSize P e)) (flatElem P e) parts z fun blk=>
   br (!isPool blk) (K (.slice (newPlace h blk) len len (elemSize P e) true) (h++[blk])) none) none
  | none=>none
 | _=>none
def goMakeSlice (t:TypeId)(l c:AV)(h:Heap)(K:AV->Heap->Option α):Option α:=
 match P.underlying t,l,c with
 | some (.slice e),.int _ l,.int _ c=>
  br (decide (0<=l)&&decide (l<=c)&&decide (c<=1073741824)&&Nat.ble (P.bytesOf e) 65536&&Nat.blt 0 (elemSize P e))
   (match tableOf P e [] with
   | some k=>newTable h k l.toNat c.toNat K
   | none=>match zeroRow P false e c.toNat with
   | some blk=>K (.slice (newPlace h blk) l.toNat c.toNat (elemSize P e) true) (h++[blk])
   | none=>none) none
 | _,_,_=>none
inductive Ap where
 | nums (k:IntKind) (xs:List Int)
 | cells (vs:List AV)
 | recs (ks:List (Option IntKind)) (xs:List Int)
 | hdrs (b:Nat) (ids:List (Nat×Nat))
 | strs (xs:List (List UInt8))
def Ap.len:Ap->Nat
 | .nums _ xs=>xs.length
 | .cells vs=>vs.length
 | .recs _ xs=>xs.length
 | .hdrs _ ids=>ids.length
 | .strs xs=>xs.length
def fromTo {β:Type}(xs:List β):Nat->Nat->List β
 | 0,n=>cond (Nat.beq n xs.length) xs (xs.take n)
 | o+1,n=>(xs.drop (o+1)).take n
def readAp (h:Heap)(p:Place)(n:Nat)(K:Ap->Option α):Option α:=
 match getSeg h p.b p.s with
 | .ints k m f=>br (Nat.beq p.n m&&Nat.ble (p.o+n) m) (K (.nums k ((List.range n).map (shiftF f p.o)))) none
 | .vec k xs=>br (Nat.beq p.n xs.length&&Nat.ble (p.o+n) xs.length) (K (.nums k (fromTo xs p.o n))) none
 | .vals vs=>br (Nat.beq p.n vs.length&&Nat.ble (p.o+n) vs.length) (K (.cells (fromTo vs p.o n))) none
 | .recs ks xs=>br (Nat.beq p.n xs.length&&(Nat.ble (p.o+n) xs.length&&Nat.beq (p.o%ks.length) 0)) (K (.recs ks (fromTo xs p.o n))) none
 | .hdr b ids=>br (Nat.beq p.n ids.length&&Nat.ble (p.o+n) ids.length) (K (.hdrs b (fromTo ids p.o n))) none
 | .strs xs=>br (Nat.beq p.n xs.length&&Nat.ble (p.o+n) xs.length) (K (.strs (fromTo xs p.o n))) none
 | _=>none
def goConvB (src dst:TypeId)(x:AV)(h:Heap)(K:AV->Option α):Option α:=
 match x with
 | .slice p len _ es _=>match P.underlying src,P.underlying dst with
  | some (.slice e),some .string=>match P.underlying e with
   | some (.int .u8)=>br (Nat.beq es 1) (readAp h p len fun ap=>match ap with
    | .nums k xs=>br (keq k .u8) (K (.str (xs.map fun n=>UInt8.ofNat n.toNat))) none
    | _=>none) none
   | _=>none
  | _,_=>none
 | v=>goConvert P src dst v K
def sameCol:Option IntKind->Option IntKind->Bool
 | some k,some k'=>keq k k'
 | none,none=>true
 | _,_=>false
def sameCols:List (Option IntKind)->List (Option IntKind)->Bool
 | [],[]=>true
 | a::as,b::bs=>cond (sameCol a b) (sameCols as bs) false
 | _,_=>false
def Ap.join:Ap->Ap->Option Ap
 | .nums k xs,.nums k' ys=>cond (keq k k') (some (.nums k (xs++ys))) none
 | .cells us,.cells vs=>some (.cells (us++vs))
 | .cells [],.nums k xs=>some (.nums k xs)
 | .nums _ [],.cells vs=>some (.cells vs)
 | .recs ks xs,.recs ks' ys=>cond (sameCols ks ks'&&Nat.beq (xs.length%ks.length) 0) (some (.recs ks (xs++ys))) none
 | .hdrs _ [],.hdrs b' ys=>some (.hdrs b' ys)
 | .hdrs b xs,.hdrs b' ys=>cond (Nat.beq b b') (some (.hdrs b (xs++ys))) none
 | .strs xs,.strs ys=>some (.strs (xs++ys))
 | _,_=>none
def zeroFits (e:TypeId):Bool:=
 match (P.info? e).bind (·.zero) with
 | some z=>Nat.beq z.cells.size (P.cellsOf e)
 | none=>false
def putAp (ro:Nat)(h:Heap)(p:Place)(ap:Ap)(K:Heap->Option α):Option α:=
 br (Nat.ble ro p.b.b) (match getSeg h p.b p.s,ap with
 | .ints k m f,.nums k' ys=>br (keq k k'&&Nat.beq p.n m&&Nat.ble (p.o+ys.length) m) (K (setSeg h p.b p.s (.ints k m (spliceF f p.o ys.length (fun j=>ys.getD j 0))))) none
 | .vec k xs,.nums k' ys=>br (keq k k'&&Nat.beq p.n xs.length&&Nat.ble (p.o+ys.length) xs.length) (K (setSeg h p.b p.s (.vec k (xs.take p.o++(ys++xs.drop (p.o+ys.length)))))) none
 | .vals us,.cells vs=>br (allB isOne vs&&Nat.beq p.n us.length&&Nat.ble (p.o+vs.length) us.length) (K (setSeg h p.b p.s (.vals (us.take p.o++(vs++us.drop (p.o+vs.length)))))) none
 | .recs ks xs,.recs ks' ys=>br (sameCols ks ks'&&Nat.beq p.n xs.length&&(Nat.beq (p.o%ks.length) 0&&Nat.ble (p.o+ys.length) xs.length)) (K (setSeg h p.b p.s (.recs ks (xs.take p.o++(ys++xs.drop (p.o+ys.length)))))) none
 | .hdr b xs,.hdrs b' ys=>br (Nat.beq b b'&&Nat.beq p.n xs.length&&Nat.ble (p.o+ys.length) xs.length) (K (setSeg h p.b p.s (.hdr b (xs.take p.o++(ys++xs.drop (p.o+ys.length)))))) none
 | .strs xs,.strs ys=>br (Nat.beq p.n xs.length&&Nat.ble (p.o+ys.length) xs.length) (K (setSeg h p.b p.s (.strs (xs.take p.o++(ys++xs.drop (p.o+ys.length)))))) none
 | _,_=>none) none
def newAp (h:Heap)(n sz:Nat)(ap:Ap)(K:AV->Heap->Option α):Option α:=
 match ap with
 | .nums k xs=>K (.slice ⟨topK h.length,0,0,xs.length⟩ n n sz false) (h++[[.vec k xs]])
 | .cells vs=>br (allB isOne vs) (K (.slice ⟨topK h.length,0,0,vs.length⟩ n n sz false) (h++[[.vals vs]])) none
 | .recs ks xs=>K (.slice ⟨topK h.length,0,0,xs.length⟩ n n sz false) (h++[[.recs ks xs]])
 | .hdrs b ids=>K (.slice ⟨topK h.length,0,0,ids.length⟩ n n sz false) (h++[[.hdr b ids]])
 | .strs xs=>K (.slice ⟨topK h.length,0,0,xs.length⟩ n n sz false) (h++[[.strs xs]])
def rowNums:Blk->Option (IntKind×List Int)
 | [.vec k xs]=>some (k,xs)
 | [.ints k n f]=>some (k,(List.range n).map f)
 | _=>none
def giveK (ro pb:Nat)(v:AV)(h:Heap)(K:Nat×Nat->Heap->Option α):Option α:=
 match v with
 | .nils=>match poolOf (h.getD pb []) with
  | some (k,rows)=>br (Nat.ble ro pb) (K (rows.length,0) (h.set pb [.pool k (rows++[[]])])) none
  | none=>none
 | .slice q len cap es _=>match q.b.r with
  | r+1=>br (Nat.beq q.b.b pb&&(Nat.beq q.s 0&&(Nat.beq q.o 0&&(Nat.beq len q.n&&(Nat.beq es 1&&Nat.beq cap len))))) (K (r,len) h) none
  | 0=>match poolOf (h.getD pb []) with
   | some (k,rows)=>match rowNums (h.getD q.b.b []) with
    | some (k',xs)=>br (Nat.ble ro pb&&(Nat.ble ro q.b.b&&(keq k k'&&(Nat.beq q.s 0&&(Nat.beq q.o 0&&(Nat.beq q.n xs.length&&(Nat.beq len q.n&&(Nat.beq cap len&&(Nat.beq es 1&&!(Nat.beq q.b.b pb))))))))))
     (K (rows.length,len) ((h.set q.b.b [.vec k' (xs++[0])]).set pb [.pool k (rows++[xs])])) none
    | none=>none
   | none=>none
 | _=>none
def giveAll (ro pb:Nat):List AV->Heap->(List (Nat×Nat)->Heap->Option α)->Option α
 | [],h,K=>K [] h
 | v::vs,h,K=>giveK ro pb v h fun q h=>giveAll ro pb vs h fun qs h=>K (q::qs) h
def convAp (ro:Nat)(s:AV)(ap:Ap)(h:Heap)(K:Ap->Heap->Option α):Option α:=
 match s with
 | .slice p _ _ _ _=>match getSeg h p.b p.s with
  | .hdr b _=>match ap with
   | .cells vs=>giveAll ro b vs h fun ids h'=>K (.hdrs b ids) h'
   | ap=>K ap h
  | _=>K ap h
 | _=>K ap h
def giveTo (gv:Bool)(ro:Nat)(p:Place)(v:AV)(h:Heap)(K:AV->Heap->Option α):Option α:=
 match gv with
 | true=>match getSeg h p.b p.s with
  | .hdr b _=>giveK ro b v h fun q h'=>K (idCell b q) h'
  | _=>K v h
 | false=>K v h
def appendTo (ro:Nat)(e:TypeId)(n:Nat)(s:AV)(ap:Ap)(h:Heap)(K:AV->Heap->Option α):Option α:=
 match s with
 | .nils=>br (Nat.beq n 0) (K .nils h) (br (Nat.ble n 1099511627776&&Nat.ble (n*P.bytesOf e) 1099511627776) (newAp h n (elemSize P e) ap K) none)
 | .slice p len cap es ex=>br (Nat.beq p.n (segLen (getSeg h p.b p.s))&&Nat.beq es (elemSize P e)) (br (Nat.beq n 0) (K (.slice p len cap es ex) h)
  (br (Nat.ble (len+n) 1099511627776&&Nat.ble ((len+n)*P.bytesOf e) 1099511627776)
  (br (Nat.ble (len+n) cap) (putAp ro h { p with o:=p.o+mulS len (elemSize P e) } ap fun h'=>K (.slice p (len+n) cap es ex) h')
   (br ex
    (readAp h p (mulS len (elemSize P e)) fun old=>match Ap.join old ap with
    | some a=>newAp h (len+n) (elemSize P e) a K
    | none=>none)
    (br (Nat.ble ro p.b.b) (match p.o,p.s,blkD h p.b with
    | 0,0,[.vec k xs]=>match ap with
     | .nums k' ys=>br (keq k k'&&Nat.beq (mulS len (elemSize P e)) xs.length) (K (.slice ⟨p.b,0,0,(xs++ys).length⟩ (len+n) (len+n) es false) (setB h p.b [.vec k (xs++ys)])) none
     | _=>none
    | 0,0,[.vals us]=>match ap with
     | .cells vs=>br (allB isOne vs&&Nat.beq (mulS len (elemSize P e)) us.length) (K (.slice ⟨p.b,0,0,(us++vs).length⟩ (len+n) (len+n) es false) (setB h p.b [.vals (us++vs)])) none
     | _=>none
    | 0,0,[.recs ks xs]=>match ap with
     | .recs ks' ys=>br (sameCols ks ks'&&(Nat.beq (mulS len (elemSize P e)) xs.length&&Nat.beq (xs.length%ks.length) 0)) (K (.slice ⟨p.b,0,0,(xs++ys).length⟩ (len+n) (len+n) es false) (setB h p.b [.recs ks (xs++ys)])) none
     | _=>none
    | 0,0,[.hdr b xs]=>match ap with
     | .hdrs b' ys=>br (Nat.beq b b'&&Nat.beq (mulS len (elemSize P e)) xs.length) (K (.slice ⟨p.b,0,0,(xs++ys).length⟩ (len+n) (len+n) es false) (setB h p.b [.hdr b (xs++ys)])) none
     | _=>none
    | 0,0,[.strs xs]=>match ap with
     | .strs ys=>br (Nat.beq (mulS len (elemSize P e)) xs.length) (K (.slice ⟨p.b,0,0,(xs++ys).length⟩ (len+n) (len+n) es false) (setB h p.b [.strs (xs++ys)])) none
     | _=>none
    | _,_,_=>none) none))) none)) none
 | _=>none
def goAppend (ro:Nat)(t:TypeId)(s x:AV)(h:Heap)(K:AV->Heap->Option α):Option α:=
 match P.underlying t with
 | some (.slice e)=>
  let sz:=elemSize P e
  br (zeroFits P e&&Nat.blt 0 sz) (match x with
  | .nils=>match s with
   | .nils=>K .nils h
   | .slice p len cap es ex=>br (Nat.beq p.n (segLen (getSeg h p.b p.s))) (K (.slice p len cap es ex) h) none
   | _=>none
  | .slice q n _ es' _=>br (Nat.beq es' sz) (readAp h q (mulS n sz) fun ap=>convAp ro s ap h fun ap h=>appendTo P ro e n s ap h K) none
  | _=>none) none
 | _=>none
def goAppendZ (t t':TypeId)(s x:AV)(h:Heap)(K:AV->Heap->Option α):Option α:=
 match P.underlying t,P.underlying t',s,x with
 | some (.slice e),some (.int _),.nils,.int _ n=>
  br (decide (0<n)&&decide (n<=1099511627776)&&Nat.ble (n.toNat*P.bytesOf e) 1099511627776&&Nat.blt 0 (elemSize P e)) (match zeroRow P true e n.toNat with
  | some [.vec k xs]=>newAp h n.toNat (elemSize P e) (.nums k xs) K
  | _=>none) none
 | _,_,_,_=>none
def goLen (t:TypeId)(x:AV)(K:AV->Option α):Option α:=
 match P.underlying t,x with
 | some (.slice _),.slice _ len _ _ _=>br (Nat.ble len 9223372036854775807) (K (.int .i64 (len:Int))) none
 | some (.slice _),.nils=>K (.int .i64 0)
 | some .string,.str s=>br (Nat.ble s.length 9223372036854775807) (K (.int .i64 (s.length:Int))) none
 | some (.array n _),_=>br (Nat.ble n 9223372036854775807) (K (.int .i64 (n:Int))) none
 | _,_=>none
def cellOf (seg:AV)(o:Nat)(K:AV->Option α):Option α:=match seg with
 | .ints k n f=>br (Nat.blt o n) (K (.int k (f o))) none
 | .vec k xs=>br (Nat.blt o xs.length) (K (.int k (xs.getD o 0))) none
 | .bools n g=>br (Nat.blt o n) (K (.bool (g o))) none
 | .vals vs=>match vs.getD o .undef with
  | .undef=>none
  | v=>K v
 | _=>none
def goPart (t:TypeId)(ss:List AV)(off:Nat)(K:AV->Option α):Option α:=
 match P.underlying t with
 | some (.struct _)=>agg
 | some (.array _ _)=>agg
 | some _=>match ss with
  | [seg]=>cellOf seg off K
  | _=>match locate ss off with
   | some (i,q,_)=>cellOf (ss.getD i .undef) q K
   | none=>none
 | none=>none
where
 agg:=match homT P t,ss with
  | some (k,m),[.ints k' n f]=>br (keq k k'&&Nat.ble (off+m) n) (K (.agg [.ints k m (shiftF f off)])) none
  | _,_=>match locate ss off with
   | some (i,0,_)=>match takeSegs (ss.drop i) (P.cellsOf t) with
    | some r=>K (.agg r)
    | none=>none
   | _=>none
def goIndex (t:TypeId)(x i:AV)(K:AV->Option α):Option α:=
 match i with
 | .int _ i=>match P.underlying t,x with
  | some (.array n e),.agg ss=>br (Nat.blt 0 (elemSize P e)&&(decide (0<=i)&&decide (i<n))) (goPart P e ss (mulS i.toNat (elemSize P e)) K) none
  | _,_=>none
 | _=>none
def goField (t:TypeId)(x:AV)(f:Nat)(K:AV->Option α):Option α:=
 match P.underlying t,x with
 | some (.struct fs),.agg ss=>match fs[f]? with
  | some fd=>br (Nat.blt 0 (P.cellsOf fd.type)) (goPart P fd.type ss fd.offset K) none
  | none=>none
 | _,_=>none
end ops
end Go.AM
namespace Go.AM
section exec
variable {α:Type} (P:Program)
abbrev Sum (α:Type):Type:=Nat->List AV->Heap->(AV->Heap->Option α)->Option α
def opK (gv:Bool)(ro:Nat)(call:FuncId->Sum α)(op:Op)(t:List AV)(h:Heap)(K:AV->Heap->Option α):Option α:=
 let ρ:=evalO t
 match op with
 | .move x | .assign x=>K (ρ x) h
 | .pick c a b=>match ρ c with
  | .bool c=>br c (K (ρ a) h) (K (ρ b) h)
  | _=>none
 | .alloc e=>match zeroOf P e with
  | some ss=>br (!ss.isEmpty&&!isPool ss) (K (.ptr (newPlace h ss)) (h++[ss])) none
  | none=>none
 | .box _ x=>match ρ x with
  | .agg ss=>br (Nat.blt 0 (lenOf ss)&&(onesB ss&&!isPool ss)) (K (.ptr (newPlace h ss)) (h++[ss])) none
  | v=>br (isOne v) (K (.ptr (newPlace h [.vals [v]])) (h++[[.vals [v]]])) none
 | .build t' ps=>goBuild P t' (ps.toList.map fun (i,x)=>(i,ρ x)) fun v=>K v h
 | .buildSlice t' n ps=>goBuildSlice P t' n (ps.toList.map fun (i,x)=>(i,ρ x)) h K
 | .load t' x=>match ρ x with
  | .ptr p=>loadAt P t' p h fun v=>K v h
  | .rptr p c=>loadRec P t' p c h fun v=>K v h
  | _=>none
 | .store t' x y=>match ρ x with
  | .ptr p=>br (Nat.beq (P.cellsOf t') (cellsIn (ρ y))&&Nat.blt 0 (P.cellsOf t')) (giveTo gv ro p (ρ y) h fun v h=>storeAt ro p v h fun h'=>K .undef h') none
  | .rptr p c=>br (Nat.beq (P.cellsOf t') 1) (storeRec ro p c (ρ y) h fun h'=>K .undef h') none
  | _=>none
 | .nilCheck x=>match ρ x with
  | .ptr p=>K (.ptr p) h
  | .func f caps=>K (.func f caps) h
  | _=>none
 | .binOp op xt x y _=>match ρ x with
  | .bool a=>match ρ y with
   | .bool b=>match P.underlying xt with
    | some .bool=>match op with
     | .eql=>K (.bool (a==b)) h
     | .neq=>K (.bool (a != b)) h
     | _=>none
    | _=>none
   | _=>none
  | .agg ss=>match ρ y with
   | .agg ss'=>match op with
    | .eql=>goEqAgg P xt ss ss' fun b=>K (.bool b) h
    | .neq=>goEqAgg P xt ss ss' fun b=>K (.bool (!b)) h
    | _=>none
   | _=>none
  | .slice p len cap es ex=>match ρ y with
   | .nils=>match P.underlying xt with
    | some (.slice _)=>match op with
     | .eql=>br (Nat.blt 0 cap) (K (.bool false) h) none
     | .neq=>br (Nat.blt 0 cap) (K (.bool true) h) none
     | _=>none
    | _=>none
   | _=>none
  | v=>goBin op v (ρ y) fun v=>K v h
 | .unOp op _ x=>goUn op (ρ x) fun v=>K v h
 | .convert s d x=>match gv with
  | true=>goConvB P s d (ρ x) h fun v=>K v h
  | false=>goConvert P s d (ρ x) fun v=>K v h
 | .makeFunc fn first caps=>match fn with
  | .func f=>br (first.toList.isEmpty) (K (.func f (caps.toList.map ρ)) h) none
  | _=>none
 | .makeSlice t' l c=>goMakeSlice P t' (ρ l) (ρ c) h K
 | .slice t' x lo hi mx=>br (!mx.isSome||hi.isSome) (goSlice P t' (ρ x) (lo.map ρ) (hi.map ρ) (mx.map ρ) h fun v=>K v h) none
 | .fieldAddr t' x f=>goFieldAddr P t' (ρ x) f h fun v=>K v h
 | .indexAddr t' x i=>goIndexAddr P t' (ρ x) (ρ i) h fun v=>K v h
 | .index t' x i=>goIndex P t' (ρ x) (ρ i) fun v=>K v h
 | .field t' x f=>goField P t' (ρ x) f fun v=>K v h
 | .extract x i=>match ρ x with
  | .tuple vs=>match vs[i]? with
   | some v=>K v h
   | none=>none
  | _=>none
 | .call c=>match c.callee with
  | .value f=>match ρ f with
   | .func f caps=>call f ro (c.args.toList.map ρ++caps) h K
   | _=>none
  | .builtin b=>match b,c.args.toList.map ρ,c.argTypes.toList with
   | .len,[x],[t']=>goLen P t' x fun v=>K v h
   | .append,[s,x],[t',t'']=>br (Nat.beq t' t'') (goAppend P ro t' s x h K) (goAppendZ P t' t'' s x h K)
   | .min,[.int k x,.int k' y],_=>br (keq k k') (K (.int k (cond (decide (y<x)) y x)) h) none
   | .max,[.int k x,.int k' y],_=>br (keq k k') (K (.int k (cond (decide (x<y)) y x)) h) none
   | .cap,[.nils],[t']=>match P.underlying t' with
    | some (.slice _)=>K (.int .i64 0) h
    | _=>none
   | _,_,_=>none
  | _=>none
 | _=>none
def forceL {β γ:Type}:List β->(List β->γ)->γ
 | [],k=>k []
 | x::xs,k=>forceL xs fun ys=>k (x::ys)
mutual
def forceV {γ:Type}:AV->(AV->γ)->γ
 | .vals vs,k=>forceVs vs fun vs=>k (.vals vs)
 | .agg vs,k=>forceVs vs fun vs=>k (.agg vs)
 | .tuple vs,k=>forceVs vs fun vs=>k (.tuple vs)
 | .func f vs,k=>forceVs vs fun vs=>k (.func f vs)
 | .undef,k=>k .undef
 | .bool b,k=>k (.bool b)
 | .int i n,k=>k (.int i n)
 | .str s,k=>k (.str s)
 | .ptr p,k=>k (.ptr p)
 | .slice p l c es ex,k=>k (.slice p l c es ex)
 | .nils,k=>k .nils
 | .ints i n f,k=>k (.ints i n f)
 | .vec i xs,k=>k (.vec i xs)
 | .bools n f,k=>k (.bools n f)
 | .recs ks xs,k=>k (.recs ks xs)
 | .rptr p c,k=>k (.rptr p c)
 | .pool i rows,k=>k (.pool i rows)
 | .hdr b ids,k=>k (.hdr b ids)
 | .strs xs,k=>k (.strs xs)
def forceVs {γ:Type}:List AV->(List AV->γ)->γ
 | [],k=>k []
 | v::vs,k=>forceV v fun v=>forceVs vs fun vs=>k (v::vs)
end
def forceH {γ:Type}:Heap->(Heap->γ)->γ
 | [],k=>k []
 | b::bs,k=>forceVs b fun c=>forceH bs fun cs=>k (c::cs)
def putO (t:List AV):Option Nat->AV->List AV
 | some d,v=>t.set d v
 | none,_=>t
def elemB (n:Nat):List Nat->Bool
 | []=>false
 | m::ms=>cond (Nat.beq n m) true (elemB n ms)
def isW:Op->Bool
 | .store ..=>true
 | .call c=>match c.callee with
  | .builtin .append=>true
  | .value (.func f)=>loudF f
  | _=>false
 | _=>false
def isLd:Op->Bool
 | .call c=>match c.callee with
  | .builtin .append=>true
  | .value (.func f)=>loudF f
  | _=>false
 | _=>false
def isP:Op->Bool
 | .move _ | .assign _ | .pick .. | .binOp .. | .unOp .. | .convert .. | .extract .. | .index .. | .field ..=>true
 | _=>false
def isC:Op->Bool
 | .convert ..=>true
 | _=>false
def isS:Op->Bool
 | .store ..=>true
 | _=>false
def isQ:Op->Bool
 | .fieldAddr .. | .indexAddr .. | .nilCheck _=>true
 | _=>false
def isFA:Op->Bool
 | .fieldAddr .. | .indexAddr ..=>true
 | _=>false
def isL:Op->Bool
 | .load ..=>true
 | _=>false
def isA:Op->Bool
 | .alloc _=>true
 | .buildSlice _ _ ps=>match ps.toList with
  | []=>true
  | _=>false
 | _=>false
def tmpOf:Operand->List Nat
 | .tmp t=>[t]
 | _=>[]
def readsOf (all:List Oper)(o:Oper):List Nat:=
 o.op.operands.toList.flatMap tmpOf++(match o.guard with
  | some (j,_)=>((all[j]?).bind (·.dst)).toList
  | none=>[])
def ancAdd:List Nat->List Nat->List Nat
 | s,[]=>s
 | s,b::l=>cond (elemB b s) (ancAdd s l) (ancAdd (b::s) l)
def ancFrom (acc:List (List Nat)):List Oper->List (List Nat)
 | []=>acc
 | o::rest=>ancFrom (acc++[ancAdd [] (o.after.toList.flatMap fun e=>cond (Region.binds .any e) (e.on::acc.getD e.on []) [])]) rest
def meetB (xs ys:List Nat):Bool:=xs.any fun x=>elemB x ys
def memB (oi oj:Op):Bool:=
 (isW oj&&!(isP oi||(isS oj&&(isQ oi||isL oi||isA oi))||(isLd oj&&(isL oi||isFA oi))))||(isW oi&&!(isP oj||(isS oi&&isQ oj)))
def pairB (all:List Oper)(oi oj:Oper):Bool:=
 meetB oi.dst.toList (readsOf all oj)||meetB oj.dst.toList (readsOf all oi)||meetB oi.dst.toList oj.dst.toList||memB oi.op oj.op
def pairsB (all:List Oper)(anc:List (List Nat)):Nat->List Oper->Bool
 | _,[]=>true
 | j,oj::rest=>allB (fun i=>!(pairB all (all.getD i default) oj)||elemB i (anc.getD j [])) (List.range j)&&pairsB all anc (j+1) rest
def backB:Nat->List Oper->Bool
 | _,[]=>true
 | j,o::rest=>allB (fun e=>!(Region.binds .any e)||Nat.blt e.on j) o.after.toList&&backB (j+1) rest
def drawOk (ops:List Oper):Bool:=backB 0 ops&&pairsB ops (ancFrom [] ops) 0 ops
def blkOf:AV->Option Key
 | .ptr p=>some p.b
 | .rptr p _=>some p.b
 | .slice p _ _ _ _=>some p.b
 | _=>none
def keepsB (s:Nat)(rest:List Oper):Bool:=allB (fun o=>match o.dst with
 | some d=>!(Nat.beq d s)
 | none=>true) rest
def apartO (all:List Oper)(t:List AV)(i k:Nat):Operand->Operand->Bool
 | .tmp s,.tmp s'=>keepsB s (all.drop i)&&(keepsB s' (all.drop k)&&(match blkOf (t.getD s .undef),blkOf (t.getD s' .undef) with
  | some b,some b'=>!(Nat.beq b.b b'.b)
  | _,_=>false))
 | _,_=>false
def lateB (all:List Oper)(t:List AV)(anc:List (List Nat)):Nat->List Oper->Bool
 | _,[]=>true
 | k,o::rest=>(match o.op with
  | .store _ y _=>allB (fun i=>match (all.getD i default).op with
   | .load _ x=>elemB i (anc.getD k [])||apartO all t i k x y
   | _=>true) (List.range k)
  | _=>true)&&lateB all t anc (k+1) rest
mutual
def refs:AV->List Nat
 | .ptr p=>[p.b.b]
 | .rptr p _=>[p.b.b]
 | .slice p _ _ _ _=>[p.b.b]
 | .hdr b _=>[b]
 | .func _ caps=>refsL caps
 | .vals vs=>refsL vs
 | .agg ss=>refsL ss
 | .tuple vs=>refsL vs
 | .undef | .bool _ | .int _ _ | .str _ | .nils | .ints .. | .vec .. | .bools .. | .recs .. | .pool .. | .strs ..=>[]
def refsL:List AV->List Nat
 | []=>[]
 | v::vs=>refs v++refsL vs
end
def addNew:List Nat->List Nat->List Nat
 | s,[]=>s
 | s,b::l=>cond (elemB b s) (addNew s l) (addNew (s++[b]) l)
def closeRefs (h:Heap):Nat->Nat->List Nat->List Nat
 | 0,_,s=>s
 | f+1,k,s=>match s[k]? with
  | none=>s
  | some b=>closeRefs h f (k+1) (addNew s (refsL (h.getD b [])))
def reachOf (args:List AV)(h:Heap):List Nat:=closeRefs h (h.length+1) 0 (addNew [] (refsL args))
def argsOf (op:Op)(t:List AV):List AV:=match op with
 | .call c=>c.args.toList.map (evalO t)
 | _=>[]
def addrsOf:Op->List Operand
 | .load _ x=>[x]
 | .fieldAddr _ x _=>[x]
 | .indexAddr _ x i=>[x,i]
 | _=>[]
def reach2 (h:Heap):List Nat->List Nat
 | []=>[]
 | b::bs=>b::(refsL (h.getD b [])++reach2 h bs)
def wroteOf (op:Op)(t:List AV)(h:Heap):List Nat:=match op with
 | .call c=>match c.callee with
  | .builtin _=>reach2 h (refsL (argsOf op t))
  | _=>reachOf (argsOf op t) h
 | _=>reachOf (argsOf op t) h
def lateL (all:List Oper)(anc:List (List Nat))(k:Nat)(op:Op)(t:List AV)(h:Heap):Bool:=
 allB (fun i=>match addrsOf (all.getD i default).op with
  | []=>true
  | x::xs=>elemB i (anc.getD k [])||allB (fun x=>match x with
   | .tmp s=>keepsB s (all.drop i)&&(keepsB s (all.drop k)&&(match blkOf (t.getD s .undef) with
    | some b=>!(elemB b.b (wroteOf op t h))
    | none=>true))
   | _=>true) (x::xs)) (List.range k)
def opsK (draw:Bool)(ro:Nat)(call:FuncId->Sum α)(all:List Oper):List Oper->St->(St->Option α)->Option α
 | [],st,K=>K st
 | o::rest,st,K=>
  let run:=fun (t:List AV)=>br (!(draw&&isLd o.op)||lateL all (ancFrom [] all) (all.length-(rest.length+1)) o.op t st.h) (opK P (!draw) (cond (draw&&!isW o.op) st.h.length ro) call o.op t st.h fun v h=>forceV v fun v=>forceL (putO t o.dst v) fun t=>forceH h fun h=>opsK draw ro call all rest ⟨t,h⟩ K) none
  let skip:=fun (t:List AV)=>forceL (putO t o.dst (.tuple [])) fun t=>opsK draw ro call all rest ⟨t,st.h⟩ K
  match o.guard with
  | none=>run st.t
  | some (j,want)=>match (all[j]?).bind (·.dst) with
   | some d=>match st.t.getD d .undef with
    | .bool b=>br b ((cond want run skip) (st.t.set d (.bool true))) ((cond want skip run) (st.t.set d (.bool false)))
    | .tuple vs=>match vs with
     | []=>skip st.t
     | _=>none
    | _=>none
   | none=>none
structure Keep where
 slots:List Nat
 grow:List Nat:=[]
def refsBelow (n:Nat):AV->Bool
 | .ptr p=>Nat.blt p.b.b n
 | .rptr p _=>Nat.blt p.b.b n
 | .slice p _ _ _ _=>Nat.blt p.b.b n
 | .hdr b _=>Nat.blt b n
 | .bool _ | .int _ _ | .str _ | .nils | .undef | .ints .. | .vec .. | .bools .. | .recs .. | .pool .. | .strs ..=>true
 | .func _ caps=>caps.all fun
  | .ptr p=>Nat.blt p.b.b n
  | .int _ _ | .bool _=>true
  | _=>false
 | .vals vs=>vs.all fun
  | .ptr p=>Nat.blt p.b.b n
  | .slice p _ _ _ _=>Nat.blt p.b.b n
  | .bool _ | .int _ _ | .str _ | .nils=>true
  | _=>false
 | .agg ss=>ss.all fun
  | .ints .. | .bools ..=>true
  | .vals vs=>vs.all fun
   | .bool _ | .int _ _ | .str _ | .nils=>true
   | _=>false
  | _=>false
 | .tuple vs=>vs.all fun
  | .bool _ | .int _ _ | .str _ | .nils=>true
  | .agg ss=>ss.all fun
   | .ints .. | .bools ..=>true
   | .vals vs=>vs.all fun
    | .bool _ | .int _ _ | .str _ | .nils=>true
    | _=>false
   | _=>false
  | .slice p _ _ _ _=>Nat.blt p.b.b n
  | _=>false
def unex:AV->AV
 | .slice p l c es true=>cond (Nat.ble (p.o+mulS c es) p.n) (.slice p l c es false) .undef
 | v=>v
def keepT (ks gs:List Nat):Nat->List AV->List AV
 | _,[]=>[]
 | i,v::rest=>cond (elemB i ks) (cond (elemB i gs) (unex v) v) .undef::keepT ks gs (i+1) rest
def trimSt (ks:List Nat)(gs:List Nat)(n:Nat)(st:St):Option St:=
 let t:=keepT ks gs 0 st.t
 let h:=st.h.take n
 cond (Nat.beq h.length st.h.length||(allB (refsBelow n) t&&allB (fun b=>allB (refsBelow n) b) h)) (some (forceL t fun t=>forceH h fun h=>⟨t,h⟩)) none
structure LoopAnn where
 head:List Nat:=[]
 grow:List Nat:=[]
 out:List Nat:=[]
 ret:List Nat:=[]
def loopN (norm:St->Option St)(body:St->(AExit->St->Option α)->Option α):Nat->St->(AExit->St->Option α)->Option α
 | 0,_,_=>none
 | n+1,st,K=>body st fun e st'=>match e with
  | .normal=>match norm st' with
   | some s=>loopN norm body n s K
   | none=>none
  | e=>K e st'
def firstRegion:Code->Nat
 | .region i _ _=>i
 | .seq a _=>firstRegion a
 | .block _ a=>firstRegion a
 | .loop a=>firstRegion a
 | _=>0
def cutKey (c:Code):Nat:=firstRegion c+1000000
def leaveLoop (ann:LoopAnn)(n:Nat)(K:AExit->St->Option α)(e:AExit)(st:St):Option α:=
 match e with
 | .ret=>match trimSt ann.ret [] n st with
  | some s=>K .ret s
  | none=>none
 | e=>match trimSt ann.out [] n st with
  | some s=>K e s
  | none=>none
def knowO (t:List AV)(c:Operand)(b:Bool):List AV:=
 match c with
 | .tmp i=>t.set i (.bool b)
 | _=>t
abbrev LSum (α:Type):Type:=Nat->St->(AExit->St->Option α)->Option α
def codeK (ro:Nat)(call:FuncId->Sum α)(ls:Nat->Option (LSum α))(ann:Nat->LoopAnn)(lf:Nat):Code->St->(AExit->St->Option α)->Option α
 | .skip,st,K=>K .normal st
 | .label _,st,K=>K .normal st
 | .region _ ops draw,st,K=>br (!draw||drawOk ops.toList) (opsK P draw ro call ops.toList ops.toList st fun st'=>br (!draw||lateB ops.toList st'.t (ancFrom [] ops.toList) 0 ops.toList) (K .normal st') none) none
 | .seq a b,st,K=>codeK ro call ls ann lf a st fun e st'=>match e with
  | .normal=>match ls (cutKey b) with
   | some s=>s ro st' K
   | none=>codeK ro call ls ann lf b st' K
  | e=>K e st'
 | .cond c a b,st,K=>match evalO st.t c with
  | .bool t=>br t (forceL (knowO st.t c true) fun t=>codeK ro call ls ann lf a ⟨t,st.h⟩ K) (forceL (knowO st.t c false) fun t=>codeK ro call ls ann lf b ⟨t,st.h⟩ K)
  | _=>none
 | .block id c,st,K=>codeK ro call ls ann lf c st fun e st'=>match e with
  | .exit i=>br (Nat.beq i id) (K .normal st') (K (.exit i) st')
  | e=>K e st'
 | .exit id,st,K=>K (.exit id) st
 | .ret,st,K=>K .ret st
 | .loop c,st,K=>match ls (firstRegion c) with
  | some s=>s ro st K
  | none=>
   let a:=ann (firstRegion c)
   let n:=st.h.length
   match trimSt a.head a.grow n st with
   | some s=>loopN (trimSt a.head a.grow n) (codeK ro call ls ann lf c) lf s (leaveLoop a n K)
   | none=>none
 | _,_,_=>none
def resultsK (rs:List ResultVar)(t:List AV)(h:Heap)(K:List AV->Option α):Option α:=
 match rs with
 | []=>K []
 | .tmp i::rest=>resultsK rest t h fun vs=>K (t.getD i .undef::vs)
 | .cell i ty::rest=>match t.getD i .undef with
  | .ptr p=>loadAt P ty p h fun v=>resultsK rest t h fun vs=>K (v::vs)
  | _=>none
def oneOf:List AV->AV
 | [v]=>v
 | vs=>.tuple vs
def leaveCall (n:Nat)(v:AV)(h:Heap)(K:AV->Heap->Option α):Option α:=
 br (Nat.beq h.length n) (K v h)
  (br (refsBelow n v&&allB (fun b=>allB (refsBelow n) b) (h.take n)) (K v (h.take n)) (K v h))
end exec
end Go.AM
namespace Go.AM
def findLoop (i:Nat):Code->Option Code
 | .seq a b=>match findLoop i a with
  | some c=>some c
  | none=>findLoop i b
 | .cond _ a b=>match findLoop i a with
  | some c=>some c
  | none=>findLoop i b
 | .block _ a=>findLoop i a
 | .scope a=>findLoop i a
 | .loop c=>cond (Nat.beq (firstRegion c) i) (some c) (findLoop i c)
 | _=>none
def loopOf (fn:Func)(i:Nat):Code:=match fn.body with
 | some c=>(findLoop i c).getD .skip
 | none=>.skip
def loopsIn:Code->List Code
 | .seq a b=>loopsIn a++loopsIn b
 | .cond _ a b=>loopsIn a++loopsIn b
 | .block _ a=>loopsIn a
 | .scope a=>loopsIn a
 | .loop c=>c::loopsIn c
 | _=>[]
def tailsIn:Code->List Code
 | .seq a b=>b::(tailsIn a++tailsIn b)
 | .cond _ a b=>tailsIn a++tailsIn b
 | .block _ a=>tailsIn a
 | .scope a=>tailsIn a
 | .loop c=>tailsIn c
 | _=>[]
def tailsOf (fn:Func):List Code:=match fn.body with
 | some c=>tailsIn c
 | none=>[]
def findTail (i:Nat):Code->Option Code
 | .seq a b=>cond (Nat.beq (firstRegion b) i) (some b) (match findTail i a with
  | some c=>some c
  | none=>findTail i b)
 | .cond _ a b=>match findTail i a with
  | some c=>some c
  | none=>findTail i b
 | .block _ a=>findTail i a
 | .scope a=>findTail i a
 | .loop c=>findTail i c
 | _=>none
def tailOf (fn:Func)(i:Nat):Code:=match fn.body with
 | some c=>(findTail i c).getD .skip
 | none=>.skip
def loopsOf (fn:Func):List Code:=match fn.body with
 | some c=>loopsIn c
 | none=>[]
abbrev NI:=Nat->Int
end Go.AM
