/- The small language into which the model's code is turned, and what its programs compute: no schedule, no capacities, no order that is left open. -/
import Derived.RangeFuncIn
import Derived.Recover
set_option linter.all false
namespace Go.Pi
open Go

inductive PK
 | b
 | i (k:IntKind)
 deriving DecidableEq,Inhabited

inductive Shape
 | one (k:PK)
 | agg (ks:List PK)
 deriving DecidableEq,Inhabited

inductive NK
 | slice
 | map
 | iface
 | func
 deriving DecidableEq,Inhabited

inductive VOp
 | mv
 | pick
 | ib (op:BinOp)
 | sb (op:BinOp)
 | bb (ne:Bool)
 | ag (ks:List PK) (ne:Bool)
 | nl (k:NK) (ne:Bool)
 | no
 | cv (k:IntKind)
 | fld (off:Nat) (n:Option Nat)
 | bld (zero:List Value) (parts:List (Nat×Nat))
 | ext (i:Nat)
 | mki (t:TypeId)
 | tas (t:TypeId) (zero:Value)
 | mkf (fn:Fn) (first:Nat)
 | fa (off:Nat)
 | ia (k:Nat)
 | iaa (k n:Nat)
 | len
 | slen
 | sid
 | mn
 | mx
 | ix
 | sls (lo hi:Bool)
 | sl (k:Nat) (lo hi:Bool)
 | ng
 | ixa (k n:Nat) (e:Option Nat)
 | mth (name:String)
 | nck (ok:List (String×TypeId))
 deriving Inhabited

inductive POp
 | v (f:VOp) (xs:List Operand)
 | box (t:TypeId) (x:Operand)
 | alloc (t:TypeId) (zero:Value)
 | lbox (t:TypeId) (x:Operand)
 | lalloc (t:TypeId) (zero:Value)
 | ld (n:Option Nat) (a:Operand)
 | st (n:Nat) (a x:Operand)
 | bs (t:TypeId) (k:Nat) (zero:List Value) (len:Nat) (parts:List (Nat×Operand))
 | lbs (t:TypeId) (k:Nat) (zero:List Value) (len:Nat) (parts:List (Nat×Operand))
 | mks (t:TypeId) (k:Nat) (zero:List Value) (bytes:Nat) (l c:Operand)
 | app (t:TypeId) (k:Nat) (s x:Operand)
 | s2b (t:TypeId) (x:Operand)
 | b2s (x:Operand)
 | mkm (sh:Shape)
 | mlk (sh:Shape) (zero:Value) (ok:Bool) (m key:Operand)
 | mup (sh:Shape) (m key x:Operand)
 | rng (x:Operand)
 | nxt (x:Operand)
 | call (f:Operand) (xs:List Operand)
 | inv (x:Operand) (table:List (TypeId×FuncId)) (xs:List Operand)
 | dfr (f:Operand) (xs:List Operand)
 | pnc (x:Operand)
 | clr (zero:List Value) (a:Operand)
 deriving Inhabited

structure PIns where
 dst:Option Tmp
 op:POp
 guard:Option (Tmp×Bool)
 deriving Inhabited

structure Flag where
 cls:Nat
 hb:Bool
 tb:Option (List Nat)
 deriving Inhabited

inductive PCode
 | skip
 | reg (ops:List PIns)
 | dreg (ops:List PIns) (flags:List Flag)
 | seq (a b:PCode)
 | cond (c:Operand) (a b:PCode)
 | blk (id:Nat) (c:PCode)
 | loop (c:PCode)
 | rf (f:Operand) (params:List Tmp) (assign body:PCode)
 | exit (id:Nat)
 | ret
 deriving Inhabited

structure PFunc where
 n:Nat
 res:List (Tmp×Option (Option Nat))
 rc:Option Tmp:=none
 body:PCode
 deriving Inhabited

inductive Ex
 | normal
 | exit (id:Nat)
 | ret
 | panic (v:Value)
 deriving Inhabited

inductive PObj
 | cells (c:List Value)
 | map (sh:Shape) (es:List (Value×Value))
 | iter (s:ByteArray) (pos:Nat)
 | dfr (taken:Bool)
 | loop (n:Nat) (T:List Value) (params:List Tmp) (assign body:PCode) (dfr:Nat) (state:LoopState) (pending:Option Ex)
 deriving Inhabited

structure Blk where
 obj:PObj
 ok:Bool:=true
 tip:Bool:=true
 fam:Option Nat:=none
 deriving Inhabited

abbrev Heap:=List Blk

inductive PD
 | call (fn:Fn) (args:List Value)
 | coll (r:Nat)
 deriving Inhabited

structure St where
 T:List Value
 S:List (Nat×PObj)
 D:List PD
 H:Heap
 lo:Nat
 n:Nat
 rnd:Bool
 deriving Inhabited

inductive Ret
 | ok (v:Value)
 | panic (v:Value)
 deriving Inhabited

structure Out where
 r:Ret
 H:Heap
 lo:Nat
 deriving Inhabited

def junk:Value:=.chan (some 0)

abbrev CallT:=Fn→List Value→Heap→Option Out

def get:List Value→Nat→Value
 | [],_=>undef
 | v :: _,0=>v
 | _ :: t,n+1=>get t n

def set:List Value→Nat→Value→List Value
 | [],0,v=>[v]
 | [],n+1,v=>undef :: set [] n v
 | _ :: t,0,v=>v :: t
 | x :: t,n+1,v=>x :: set t n v

def sget:List (Nat×PObj)→Nat→Nat×PObj
 | [],_=>(0,.cells [])
 | v :: _,0=>v
 | _ :: t,n+1=>sget t n

def sset:List (Nat×PObj)→Nat→(Nat×PObj)→List (Nat×PObj)
 | [],0,v=>[v]
 | [],n+1,v=>(0,.cells []) :: sset [] n v
 | _ :: t,0,v=>v :: t
 | x :: t,n+1,v=>x :: sset t n v

def ev (T:List Value):Operand→Value
 | .tmp t=>get T t
 | .const v=>v
 | .global g=>.pointer (some ⟨g,0,none⟩)
 | .func f=>.func (.func f) #[] #[]

def isLoc:Value→Bool
 | .pointer (some ⟨_,_,some _⟩)=>true
 | .slice (some ⟨_,_,some _⟩) _ _=>true
 | _=>false

def one:Value→Bool
 | .agg _=>false
 | .tuple _=>false
 | .chan _=>false
 | _=>true

def deloc (v:Value):Value:=if isLoc v then junk else v

def flat:Nat→Value→Bool
 | 0,_=>false
 | _+1,.bool _=>true
 | _+1,.int _ _=>true
 | _+1,.string _=>true
 | _+1,.pointer none=>true
 | _+1,.slice none 0 0=>true
 | _+1,.map none=>true
 | _+1,.nilFunc=>true
 | _+1,.nilIface=>true
 | n+1,.iface _ v=>flat n v
 | n+1,.agg cs=>cs.toList.all (flat n)
 | n+1,.tuple cs=>cs.toList.all (flat n)
 | _+1,_=>false

def PK.has:PK→Value→Bool
 | .b,.bool _=>true
 | .i k,.int j _=>j == k
 | _,_=>false

def hasAll:List PK→List Value→Bool
 | [],[]=>true
 | k :: ks,v :: vs=>k.has v&&hasAll ks vs
 | _,_=>false

def Shape.has:Shape→Value→Bool
 | .one k,v=>k.has v
 | .agg ks,.agg cs=>hasAll ks cs.toList
 | _,_=>false

def eqv:Value→Value→Bool
 | .bool a,.bool b=>a == b
 | .int _ a,.int _ b=>a == b
 | _,_=>false

def eqs:List Value→List Value→Bool
 | [],[]=>true
 | x :: xs,y :: ys=>eqv x y&&eqs xs ys
 | _,_=>false

def intBin (op:BinOp)(k:IntKind)(a b:Int):Option Value :=
 match op with
 | .add=>some (.int k (k.wrap (a+b)))
 | .sub=>some (.int k (k.wrap (a - b)))
 | .mul=>some (.int k (k.wrap (a*b)))
 | .quo=>if b=0 then none else some (.int k (k.wrap (a.tdiv b)))
 | .rem=>if b=0 then none else some (.int k (a.tmod b))
 | .eql=>some (.bool (a == b))
 | .neq=>some (.bool (a != b))
 | .lss=>some (.bool (a < b))
 | .leq=>some (.bool (a≤b))
 | .gtr=>some (.bool (a > b))
 | .geq=>some (.bool (a≥b))
 | _=>none

def strBin (op:BinOp)(x y:ByteArray):Option Value :=
 match op with
 | .add=>if x.size+y.size < 2 ^ 31 then some (.string (x++y)) else none
 | .eql=>some (.bool (x.toList == y.toList))
 | .neq=>some (.bool (!(x.toList == y.toList)))
 | _=>none

def isNil:NK→Value→Option Bool
 | .slice,.slice a _ _=>some a.isNone
 | .map,.map a=>some a.isNone
 | .iface,.nilIface=>some true
 | .iface,.iface _ _=>some false
 | .func,.nilFunc=>some true
 | .func,.func _ _ _=>some false
 | _,_=>none

def fillP:List Value→List (Nat×Nat)→List Value→Option (List Value)
 | cs,[],[]=>some cs
 | cs,(off,n) :: ps,v :: vs =>
  if v.cells.size=n∧off+n≤cs.length∧v.cells.toList.all one=true then fillP (cs.take off++v.cells.toList++cs.drop (off+n)) ps vs else none
 | _,_,_=>none

def VOp.addr:VOp→Bool
 | .fa _ | .iaa _ _=>true
 | _=>false

def VOp.ev:VOp→List Value→Option Value
 | .mv,[x]=>some x
 | .pick,[.bool c,a,b]=>some (if c then a else b)
 | .ib op,[.int k a,.int j b]=>if op=.shr then (if 0≤b then some (.int k (a.fdiv (2 ^ (min b.toNat k.bits)))) else none) else if k=j then intBin op k a b else none
 | .ng,[.int k a]=>some (.int k (k.wrap (0 - a)))
 | .ixa k n none,[.agg cs,.int _ i]=>if 0≤i∧i < n then cs[i.toNat*k]? else none
 | .ixa k n (some e),[.agg cs,.int _ i]=>if 0≤i∧i < n∧i.toNat*k+e≤cs.size then some (.agg (cs.extract (i.toNat*k) (i.toNat*k+e))) else none
 | .sb op,[.string a,.string b]=>strBin op a b
 | .bb ne,[.bool a,.bool b]=>some (.bool ((a == b) != ne))
 | .ag ks ne,[.agg a,.agg b]=>if hasAll ks a.toList∧hasAll ks b.toList then some (.bool ((eqs a.toList b.toList) != ne)) else none
 | .nl k ne,[x]=>(isNil k x).map fun b=>.bool (b != ne)
 | .no,[.bool a]=>some (.bool (!a))
 | .cv k,[.int _ n]=>some (.int k (k.wrap n))
 | .fld off none,[.agg cs]=>cs[off]?
 | .fld off (some n),[.agg cs]=>if off+n≤cs.size then some (.agg (cs.extract off (off+n))) else none
 | .bld zero ps,vs=>(fillP zero ps vs).map fun l=>.agg l.toArray
 | .ext i,[.tuple vs]=>vs[i]?
 | .mki t,[x]=>some (.iface t x)
 | .tas t zero,[.iface u x]=>some (if u=t then .tuple #[x,.bool true] else .tuple #[zero,.bool false])
 | .tas _ zero,[.nilIface]=>some (.tuple #[zero,.bool false])
 | .mkf fn n,vs=>if n≤vs.length then some (.func fn (vs.take n).toArray (vs.drop n).toArray) else none
 | .mth name,[.iface t _]=>some (.func (.method name) #[.iface t junk] #[])
 | .nck ok,[.func (.method n) a _]=>(match a.toList with | Value.iface t _ :: _=>if ok.contains (n,t)=true then some junk else none | _=>none)
 | .fa off,[.pointer (some a)]=>some (.pointer (some ⟨a.block,a.off+off,a.spot⟩))
 | .ia k,[.slice (some a) l _,.int _ i]=>if 0≤i∧i < l then some (.pointer (some ⟨a.block,a.off+i.toNat*k,a.spot⟩)) else none
 | .iaa k n,[.pointer (some a),.int _ i]=>if 0≤i∧i < n then some (.pointer (some ⟨a.block,a.off+i.toNat*k,a.spot⟩)) else none
 | .sid,[.string s]=>some (.string s)
 | .slen,[.string s]=>some (.int .i64 s.size)
 | .len,[.slice _ l _]=>some (.int .i64 l)
 | .mn,[.int k a,.int _ b]=>some (.int k (if b < a then b else a))
 | .mx,[.int k a,.int _ b]=>some (.int k (if a < b then b else a))
 | .ix,[.string s,.int _ i]=>if 0≤i then (s[i.toNat]?).map fun b=>.int .u8 b.toNat else none
 | .sls false false,[.string s]=>some (.string (s.extract 0 s.size))
 | .sls true false,[.string s,.int _ l]=>if 0≤l∧l≤s.size then some (.string (s.extract l.toNat s.size)) else none
 | .sls false true,[.string s,.int _ h]=>if 0≤h∧h≤s.size then some (.string (s.extract 0 h.toNat)) else none
 | .sls true true,[.string s,.int _ l,.int _ h]=>if 0≤l∧l≤h∧h≤s.size then some (.string (s.extract l.toNat h.toNat)) else none
 | .sl k lo hi,.slice a ln m :: r =>
  match lo,hi,r with
  | false,false,[]=>slc k a ln m 0 ln
  | true,false,[.int _ l]=>slc k a ln m l ln
  | false,true,[.int _ h]=>slc k a ln m 0 h
  | true,true,[.int _ l,.int _ h]=>slc k a ln m l h
  | _,_,_=>none
 | _,_=>none
where
 slc (k:Nat) (a:Option Addr) (ln m:Nat) (l h:Int):Option Value :=
  if 0≤l∧l≤h∧h≤ln then
   match a with
   | none=>some (.slice none 0 0)
   | some p =>
    if l < ln then some (.slice (some ⟨p.block,p.off+l.toNat*k,p.spot⟩) (h - l).toNat (if m=k then m else 0))
    else some (.slice (some p) 0 0)
  else none

def hcells (H:Heap)(i:Nat):Option (List Value) :=
 match H[i]? with
 | some ⟨.cells c,true,_,_⟩=>some c
 | _=>none

def cellsAt (s:St)(a:Addr):Option (List Value) :=
 match a.spot with
 | some g=>(match sget s.S a.block with | (g',.cells c)=>if g'=g then some c else none | _=>none)
 | none=>hcells s.H a.block

def rd (c:List Value)(off:Nat):Option Nat→Option Value
 | none=>c[off]?
 | some n=>if off+n≤c.length then some (.agg ((c.drop off).take n).toArray) else none

def splice (c:List Value)(off:Nat)(vs:List Value):List Value:=c.take off++vs++c.drop (off+vs.length)

def put (s:St)(d:Option Tmp)(v:Value):Option St :=
 match d with
 | none=>some s
 | some d=>if d < s.n then some { s with T:=set s.T d v } else none

def putO (s:St)(d:Option Tmp)(v:Value):Option (Ex×St):=(put s d v).map fun s=>(.normal,s)

def newA (s:St)(c:List Value):St:={ s with H:=s.H++[{ obj:=.cells c,fam:=some s.H.length }] }

def setB (s:St)(i:Nat)(o:PObj):St:={ s with H:=s.H.set i { obj:=o },lo:=min s.lo i }

def kill (f:Nat)(H:Heap):Heap:=H.map fun b=>if b.fam=some f∧b.tip=false then { b with ok:=false } else b

def stCells (s:St)(a:Addr)(vs:List Value):Option St :=
 match a.spot with
 | some g =>
  match sget s.S a.block with
  | (g',.cells c)=>if g'=g∧a.off+vs.length≤c.length then some { s with S:=sset s.S a.block (g,.cells (splice c a.off vs)) } else none
  | _=>none
 | none =>
  match s.H[a.block]? with
  | some ⟨.cells c,true,true,none⟩=>if a.off+vs.length≤c.length then some (setB s a.block (.cells (splice c a.off vs))) else none
  | some ⟨.cells c,true,true,some f⟩ =>
   if a.off+vs.length≤c.length then some { s with H:=(kill f s.H).set a.block ⟨.cells (splice c a.off vs),true,true,some f⟩,lo:=min s.lo (min f a.block) } else none
  | _=>none

def lal (s:St)(d:Tmp)(o:PObj)(v:Nat→Value):Option (Ex×St) :=
 putO { s with S:=sset s.S d ((sget s.S d).1+1,o) } (some d) (v ((sget s.S d).1+1))

def lptr (d:Tmp)(g:Nat):Value:=.pointer (some ⟨d,0,some g⟩)

def elems (H:Heap)(k:Nat):Value→Option (List Value)
 | .slice none _ _=>some []
 | .slice (some a) l _=>if l=0 then some [] else
  match a.spot,hcells H a.block with
  | none,some c=>if a.off+l*k≤c.length then some ((c.drop a.off).take (l*k)) else none
  | _,_=>none
 | .string s=>if k=1 then some (s.data.toList.map fun b=>.int .u8 b.toNat) else none
 | _=>none

def elemsL (s:St)(k:Nat):Value→Option (List Value)
 | .slice (some ⟨d,0,some g⟩) l 0=>(match sget s.S d with | (g',.cells c)=>if g'=g∧c.length=l*k then some c else none | _=>none)
 | v=>elems s.H k v

def eqk:Value→Value→Bool
 | .agg a,.agg b=>eqs a.toList b.toList
 | a,b=>eqv a b

def kfind (key:Value):List (Value×Value)→Option (Nat×Value)
 | []=>none
 | (k,v) :: es=>if eqk key k then some (0,v) else (kfind key es).map fun (i,v)=>(i+1,v)

def rep (n:Nat)(zero:List Value):List Value :=
 match n with
 | 0=>[]
 | n+1=>zero++rep n zero

def bytesOf:List Value→Option (List UInt8)
 | []=>some []
 | .int .u8 n :: r=>(bytesOf r).map fun l=>UInt8.ofNat n.toNat :: l
 | _=>none

def fnArgs:Value→List Value→Option (Fn×List Value)
 | .func (.func f) first cap,args=>some (.func f,first.toList++args++cap.toList)
 | .func (.yield l) first _,args=>some (.yield l,first.toList++args)
 | _,_=>none

def small:Nat:=1048576

structure Alc where
 obj:PObj
 arr:Bool
 val:Nat→Value

def Alc.blk (a:Alc)(k:Nat):Blk:={ obj:=a.obj,fam:=if a.arr then some k else none }

def newO (s:St)(d:Option Tmp):Option Alc→Option (Ex×St)
 | none=>none
 | some a=>putO { s with H:=s.H++[a.blk s.H.length] } d (a.val s.H.length)

def ptrA (k:Nat):Value:=.pointer (some ⟨k,0,none⟩)

def boxA (v:Value):Option Alc:=if isLoc v||!v.cells.toList.all one then none else some ⟨.cells v.cells.toList,false,ptrA⟩

def bsA (k:Nat)(zero:List Value)(len:Nat)(ps:List (Nat×Operand))(T:List Value):Option Alc :=
 let vs:=ps.map fun p=>ev T p.2
 if vs.all (fun v=>!isLoc v) then
  match fillP (rep len zero) (ps.map fun p=>(p.1*k,k)) vs with
  | some c=>some ⟨.cells c,true,fun i=>.slice (some ⟨i,0,none⟩) len k⟩
  | none=>none
 else none

def mksA (k:Nat)(zero:List Value)(bytes:Nat):Value→Value→Option Alc
 | .int _ l,.int _ c =>
  if 0≤l∧l≤c∧c < small∧bytes < small then some ⟨.cells (rep l.toNat zero),true,fun i=>.slice (some ⟨i,0,none⟩) l.toNat k⟩ else none
 | _,_=>none

def s2bA:Value→Option Alc
 | .string b=>if b.size < small then some ⟨.cells (b.data.toList.map fun b=>.int .u8 b.toNat),true,fun i=>.slice (some ⟨i,0,none⟩) b.size 1⟩ else none
 | _=>none

def rngA:Value→Option Alc
 | .string b=>some ⟨.iter b 0,false,ptrA⟩
 | _=>none

def allocOf (p:POp)(T:List Value):Option Alc :=
 match p with
 | .box _ x=>boxA (ev T x)
 | .alloc _ z=>some ⟨.cells z.cells.toList,false,ptrA⟩
 | .bs _ k zero len ps=>bsA k zero len ps T
 | .mks _ k zero bytes l c=>mksA k zero bytes (ev T l) (ev T c)
 | .s2b _ x=>s2bA (ev T x)
 | .mkm sh=>some ⟨.map sh [],false,fun k=>.map (some k)⟩
 | .rng x=>rngA (ev T x)
 | _=>none

def opR (call:CallT)(o:PIns)(s:St):Option (Ex×St) :=
 match o.op with
 | .v f xs =>
  let vs:=xs.map (ev s.T)
  if f.addr||vs.all (fun v=>!isLoc v) then
   match f.ev vs with
   | some v=>putO s o.dst v
   | none=>none
  else none
 | .box t x=>newO s o.dst (boxA (ev s.T x))
 | .alloc t z=>newO s o.dst (some ⟨.cells z.cells.toList,false,ptrA⟩)
 | .lbox _ x =>
  let v:=ev s.T x
  match o.dst with
  | some d=>if isLoc v||!v.cells.toList.all one then none else lal s d (.cells v.cells.toList) (lptr d)
  | none=>none
 | .lalloc _ z =>
  match o.dst with
  | some d=>lal s d (.cells z.cells.toList) (lptr d)
  | none=>none
 | .ld n a =>
  match ev s.T a with
  | .pointer (some a) =>
   match cellsAt s a with
   | some c=>match rd c a.off n with
    | some v=>putO s o.dst v
    | none=>none
   | none=>none
  | _=>none
 | .st n a x =>
  match ev s.T a with
  | .pointer (some a) =>
   let v:=ev s.T x
   if isLoc v||v.cells.size != n||!v.cells.toList.all one then none else
   match stCells s a v.cells.toList with
   | some s=>putO s o.dst undef
   | none=>none
  | _=>none
 | .bs _ k zero len ps=>newO s o.dst (bsA k zero len ps s.T)
 | .lbs _ k zero len ps =>
  let vs:=ps.map fun p=>ev s.T p.2
  match o.dst with
  | some d =>
   if vs.all (fun v=>!isLoc v) then
    match fillP (rep len zero) (ps.map fun p=>(p.1*k,k)) vs with
    | some c=>lal s d (.cells c) (fun g=>.slice (some ⟨d,0,some g⟩) len 0)
    | none=>none
   else none
  | none=>none
 | .mks _ k zero bytes l c=>newO s o.dst (mksA k zero bytes (ev s.T l) (ev s.T c))
 | .app _ k x y =>
  match elemsL s k (ev s.T y),ev s.T x with
  | some new,.slice a l m =>
   if isLoc (.slice a l m) then none else
   if new.length % k≠0∨l+new.length≥small then none else
   if new.isEmpty then putO s o.dst (.slice a l m) else
   match a with
   | none=>if l=0 then putO (newA s new) o.dst (.slice (some ⟨s.H.length,0,none⟩) (new.length / k) k) else none
   | some a =>
    match a.spot,s.H[a.block]? with
    | none,some ⟨.cells c,true,true,some f⟩ =>
     if m=k∧0 < k∧a.off+l*k≤c.length then
      let child:Blk:=⟨.cells ((c.drop a.off).take (l*k)++new),true,true,some f⟩
      putO (if a.off+l*k=c.length then { s with H:=s.H.set a.block ⟨.cells c,true,false,some f⟩++[child] }
       else { s with H:=(kill f s.H).set a.block ⟨.cells c,false,false,some f⟩++[child],lo:=min s.lo (min f a.block) }) o.dst
       (.slice (some ⟨s.H.length,0,none⟩) (l+new.length / k) k)
     else none
    | _,_=>none
  | _,_=>none
 | .s2b _ x=>newO s o.dst (s2bA (ev s.T x))
 | .b2s x =>
  match ev s.T x with
  | .slice a l m =>
   match (elemsL s 1 (.slice a l m)).bind bytesOf with
   | some bs=>putO s o.dst (.string ⟨bs.toArray⟩)
   | none=>none
  | _=>none
 | .mkm sh=>newO s o.dst (some ⟨.map sh [],false,fun k=>.map (some k)⟩)
 | .mlk sh zero ok m key =>
  let k:=ev s.T key
  if sh.has k then
   match (match ev s.T m with
    | .map none=>some []
    | .map (some i)=>(match s.H[i]? with | some ⟨.map sh' es,true,_,_⟩=>if sh'=sh then some es else none | _=>none)
    | _=>none) with
   | none=>none
   | some es =>
    match kfind k es with
    | some (_,v)=>putO s o.dst (if ok then .tuple #[v,.bool true] else v)
    | none=>putO s o.dst (if ok then .tuple #[zero,.bool false] else zero)
  else none
 | .mup sh m key x =>
  let k:=ev s.T key
  let v:=ev s.T x
  if sh.has k∧isLoc v=false then
   match ev s.T m with
   | .map (some i) =>
    match s.H[i]? with
    | some ⟨.map sh' es,true,true,none⟩ =>
     if sh'=sh then
      match kfind k es with
      | some (j,_)=>putO (setB s i (.map sh (es.set j (k,v)))) o.dst undef
      | none=>putO (setB s i (.map sh (es++[(k,v)]))) o.dst undef
     else none
    | _=>none
   | _=>none
  else none
 | .rng x=>newO s o.dst (rngA (ev s.T x))
 | .nxt x =>
  match ev s.T x with
  | .pointer (some ⟨i,0,none⟩) =>
   match s.H[i]? with
   | some ⟨.iter b pos,true,true,none⟩ =>
    if pos < b.size then
     let (c,width):=Utf8.decode b pos
     putO (setB s i (.iter b (pos+width))) o.dst (.tuple #[.bool true,goInt pos,.int .i32 c])
    else putO s o.dst (.tuple #[.bool false])
   | _=>none
  | _=>none
 | .call f xs=>callR (ev s.T f) (xs.map (ev s.T))
 | .inv x table xs =>
  match ev s.T x with
  | .iface t v =>
   match table.find? (·.1 == t) with
   | some (_,f)=>callR (.func (.func f) #[v] #[]) (xs.map (ev s.T))
   | none=>none
  | _=>none
 | .dfr f xs =>
  let vs:=xs.map (ev s.T)
  if s.rnd||!(vs.all fun v=>!isLoc v) then none else
  match fnArgs (ev s.T f) vs with
  | some (.func g,args)=>putO { s with D:=.call (.func g) args :: s.D } o.dst undef
  | _=>none
 | .pnc x =>
  match ev s.T x with
  | .iface t v=>some (.panic (.iface t v),s)
  | _=>none
 | .clr zero a =>
  match ev s.T a with
  | .slice none _ _=>putO s o.dst (.tuple #[])
  | .slice (some ⟨b,off,none⟩) l _ =>
   if l=0 then putO s o.dst (.tuple #[]) else
   match stCells s ⟨b,off,none⟩ (rep l zero) with
   | some s=>putO s o.dst (.tuple #[])
   | none=>none
  | _=>none
where
 callR (f:Value) (vs:List Value):Option (Ex×St) :=
  if vs.all (fun v=>!isLoc v) then
   match fnArgs f vs with
   | some (fn,args) =>
    match call fn args s.H with
    | some ⟨.ok v,H,lo⟩=>putO { s with H:=H,lo:=min s.lo lo } o.dst v
    | some ⟨.panic v,H,lo⟩=>some (.panic v,{ s with H:=H,lo:=min s.lo lo })
    | none=>none
   | none=>none
  else none

def wanted (o:PIns)(T:List Value):Option Bool :=
 match o.guard with
 | none=>some true
 | some (t,want)=>match get T t with
  | .bool b=>some (b == want)
  | .tuple ⟨[]⟩=>some false
  | _=>none

def opsR (call:CallT):List PIns→St→Option (Ex×St)
 | [],s=>some (.normal,s)
 | o :: r,s =>
  match wanted o s.T with
  | some true =>
   match opR call o s with
   | some (.normal,s)=>opsR call r s
   | x=>x
  | some false =>
   match put s o.dst undef with
   | some s=>opsR call r s
   | none=>none
  | none=>none

def slotOk (x:Operand):Value→Bool
 | .slice (some ⟨d,_,some _⟩) _ _=>(match x with | .tmp t=>d == t | _=>false)
 | _=>true

def clsOk (o:PIns)(c:Nat)(s:St):Bool :=
 match o.op with
 | .v _ _=>c == 0
 | .lbox _ _ | .lalloc _ _ | .lbs _ _ _ _ _=>o.dst.any fun d=>c == d+2
 | .ld _ a | .st _ a _ =>
  match ev s.T a with
  | .pointer (some ⟨b,_,some _⟩)=>c == b+2
  | _=>c == 1
 | .dfr _ _ | .pnc _=>false
 | .app _ _ _ y | .b2s y=>c == 1&&slotOk y (ev s.T y)
 | _=>c == 1

def isMapO:PObj→Bool
 | .map _ _=>true
 | _=>false
def isCallP:POp→Bool
 | .call (.const _) _=>false
 | .call _ _=>true
 | _=>false
def isStrict:POp→Bool
 | .call (.const _) _=>true
 | _=>false
def Kept (H H1:Heap):Prop:=∀(b:Nat) (x:Blk),H[b]?=some x→∃y,H1[b]?=some y∧((y.obj=x.obj∧y.ok=x.ok)∨(isMapO x.obj=true∧isMapO y.obj=true))
def KeptC (p:POp)(H H1:Heap):Prop:=isCallP p=true∧Kept H H1
noncomputable instance (p:POp) (H H1:Heap):Decidable (KeptC p H H1):=Classical.propDecidable _
noncomputable instance (H H1:Heap):Decidable (Kept H H1):=Classical.propDecidable _

def wipe (ds:List Nat)(T:List Value):List Value:=ds.foldl (fun T d=>set T d junk) T

noncomputable def opsD (call:CallT):List PIns→List Flag→St→Option (Ex×St)
 | [],_,s=>some (.normal,s)
 | o :: r,f :: fs,s =>
  match wanted o s.T with
  | some true =>
   if clsOk o f.cls s then
    match opR call o { s with lo:=s.H.length } with
    | some (.normal,s1)=>if (s.H.length≤s1.lo∨f.hb=true)∨KeptC o.op s.H s1.H then opsD call r fs { s1 with lo:=min s.lo s1.lo } else none
    | some (e,s1) =>
     match f.tb with
     | some ds=>some (e,{ s1 with T:=wipe ds s1.T,lo:=min s.lo s1.lo })
     | none=>none
    | none=>none
   else none
  | some false =>
   match put s o.dst undef with
   | some s=>opsD call r fs s
   | none=>none
  | none=>none
 | _ :: _,[],_=>none

def loopN (body:St→Option (Ex×St)):Nat→St→Option (Ex×St)
 | 0,_=>none
 | n+1,s =>
  match body s with
  | some (.normal,s)=>loopN body n s
  | r=>r

noncomputable def codeR (call:CallT)(m:Nat):PCode→St→Option (Ex×St)
 | .skip,s=>some (.normal,s)
 | .reg ops,s=>opsR call ops s
 | .dreg ops fs,s=>opsD call ops fs s
 | .seq a b,s =>
  match codeR call m a s with
  | some (.normal,s)=>codeR call m b s
  | r=>r
 | .cond c a b,s =>
  match ev s.T c with
  | .bool true=>codeR call m a s
  | .bool false=>codeR call m b s
  | _=>none
 | .blk id c,s =>
  match codeR call m c s with
  | some (.exit i,s)=>if i=id then some (.normal,s) else some (.exit i,s)
  | r=>r
 | .loop c,s=>loopN (codeR call m c) m s
 | .rf f ps as bd,s =>
  if s.rnd then none else
  match fnArgs (ev s.T f) [.func (.yield (s.H.length+1)) #[] #[]] with
  | some (.func g,args) =>
   match call (.func g) args (s.H++[{ obj:=.dfr false }]++[{ obj:=.loop s.n (s.T.map deloc) ps as bd s.H.length .ready none }]) with
   | some ⟨.ok _,H,lo⟩ =>
    match H[s.H.length+1]? with
    | some ⟨.loop n' T' ps' as' bd' d' st pend,true,true,none⟩ =>
     if st=.busy then none else
     some (pend.getD .normal,{ s with H:=H.set (s.H.length+1) { obj:=.loop n' T' ps' as' bd' d' .exhausted pend },lo:=min s.lo lo,D:=.coll s.H.length :: s.D })
    | _=>none
   | _=>none
  | _=>none
 | .exit id,s=>some (.exit id,s)
 | .ret,s=>some (.ret,s)

def resR (s:St):List (Tmp×Option (Option Nat))→Option (List Value)
 | []=>some []
 | (t,none) :: r=>if isLoc (get s.T t) then none else (resR s r).map fun l=>get s.T t :: l
 | (t,some n) :: r =>
  match get s.T t with
  | .pointer (some a) =>
   match (cellsAt s a).bind fun c=>rd c a.off n with
   | some v=>(resR s r).map fun l=>v :: l
   | none=>none
  | _=>none

def resV:List Value→Value
 | [v]=>v
 | vs=>.tuple vs.toArray

def gcR (H0:Heap)(r:Ret)(H:Heap)(lo:Nat):Out :=
 if H0.length≤lo∧flat 4 (match r with | .ok v=>v | .panic v=>v)=true then ⟨r,H0,H0.length⟩ else ⟨r,H,lo⟩

abbrev Prims:=FuncId→Option (List Value→Heap→Option Out)

def setParams:List Value→List Tmp→List Value→List Value
 | T,t :: ts,v :: vs=>setParams (set T t v) ts vs
 | T,_,_=>T

def endR:Ex→Option (Option Value)
 | .normal=>some none
 | .ret=>some none
 | .panic v=>some (some v)
 | .exit _=>none

noncomputable def drun (PP:FuncId→Option PFunc)(prims:Prims)(call:CallT)(m:Nat)(fn:Fn)(args:List Value)(H:Heap)(pv:Option Value):Option (Heap×Nat×Option Value) :=
 match fn with
 | .func f =>
  match prims f,PP f with
  | none,some pf =>
   if args.length≤pf.n then
    match (match pf.rc with
     | none=>some (args,pv)
     | some d=>if d < pf.n then some (set args d (pv.getD .nilIface),none) else none) with
    | none=>none
    | some (T,pv) =>
     match codeR call m pf.body ⟨T,[],[],H,H.length,pf.n,false⟩ with
     | some (e,s) =>
      match endR e,s.D,resR s pf.res with
      | some none,[],some _=>some (s.H,s.lo,pv)
      | _,_,_=>none
     | none=>none
   else none
  | _,_=>none
 | _=>none

noncomputable def unw (PP:FuncId→Option PFunc)(prims:Prims)(call:CallT)(m:Nat):List PD→Option Value→St→Option (Option Value×St)
 | [],pv,s=>some (pv,s)
 | .call fn args :: ds,pv,s =>
  match drun PP prims call m fn args s.H pv with
  | some (H,lo,pv)=>unw PP prims call m ds pv { s with H:=H,lo:=min s.lo lo }
  | none=>none
 | .coll r :: ds,pv,s =>
  match s.H[r]? with
  | some ⟨.dfr false,true,true,none⟩=>unw PP prims call m ds pv (setB s r (.dfr true))
  | _=>none

noncomputable def run (PP:FuncId→Option PFunc)(prims:Prims):Nat→Fn→List Value→Heap→Option Out
 | 0,_,_,_=>none
 | m+1,.func f,args,H =>
  match prims f with
  | some g=>g args H
  | none =>
   match PP f with
   | none=>none
   | some pf =>
    if args.length≤pf.n∧pf.rc.isNone then
     match codeR (run PP prims m) m pf.body ⟨args,[],[],H,H.length,pf.n,false⟩ with
     | some (e,s) =>
      match endR e with
      | none=>none
      | some pv =>
       match unw PP prims (run PP prims m) m s.D pv s with
       | some (some v,s)=>some (gcR H (.panic v) s.H s.lo)
       | some (none,s)=>(resR s pf.res).map fun vs=>gcR H (.ok (resV vs)) s.H s.lo
       | none=>none
     | none=>none
    else none
 | m+1,.yield l,args,H =>
  match H[l]? with
  | some ⟨.loop n T ps as bd d .ready pend,true,true,none⟩ =>
   if args.length=ps.length∧ps.all (· < n)=true then
    match codeR (run PP prims m) m as ⟨setParams T ps args,[],[],H,H.length,n,true⟩ with
    | some (.normal,s) =>
     match s.H[l]? with
     | some ⟨.loop n T ps as bd' d .ready pend,true,true,none⟩ =>
      match codeR (run PP prims m) m bd (setB s l (.loop n T ps as bd' d .busy pend)) with
      | some (.panic _,_)=>none
      | some (e,s) =>
       match s.H[l]? with
       | some ⟨.loop n T ps as bd d _ _,true,true,none⟩ =>
        let (st,pd,b):LoopState×Option Ex×Bool:=match e with | .normal=>(.ready,none,true) | e=>(.done,some e,false)
        some ⟨.ok (.bool b),s.H.set l { obj:=.loop n T ps as bd d st pd },min s.lo l⟩
       | _=>none
      | none=>none
     | _=>none
    | _=>none
   else none
  | _=>none
 | _+1,_,_,_=>none

end Go.Pi
namespace Go.Pi
open Go

def aggOf (P:Program)(t:TypeId):Bool :=
 match P.underlying t with
 | some (.struct _) | some (.array _ _)=>true
 | _=>false

def cellsN (P:Program)(t:TypeId):Option Nat:=if aggOf P t then some (P.cellsOf t) else none

def known (P:Program)(t:TypeId):Bool:=(P.underlying t).isSome&&(P.info? t).isSome

def zeroOf (P:Program)(t:TypeId):Option Value:=((P.info? t).bind (·.zero)).filter fun z=>z.cells.toList.all one&&z.cells.size == P.cellsOf t&&flat 8 z

def nilK:TypeDesc→Operand→Option NK
 | .slice _,.const (.slice none _ _)=>some .slice
 | .map _ _,.const (.map none)=>some .map
 | .interface _,.const .nilIface=>some .iface
 | .func _ _ _,.const .nilFunc=>some .func
 | _,_=>none

def pkOf (P:Program)(t:TypeId):Option PK :=
 match P.underlying t with
 | some .bool=>some .b
 | some (.int k)=>some (.i k)
 | _=>none

def pksOf (P:Program)(t:TypeId):Option (List PK) :=
 match P.underlying t with
 | some (.struct fs) =>
  if (fs.toList.zipIdx.all fun (f,i)=>f.offset == i&&f.name != "_")&&P.cellsOf t == fs.size&&!P.stoodInHeld t&&!P.eqGuardType P.depth t
  then fs.toList.mapM fun f=>pkOf P f.type else none
 | _=>none

def fkOf (P:Program)(t:TypeId):Option (List PK) :=
 match pkOf P t with
 | some k=>some [k]
 | none=>pksOf P t

def flds (P:Program):Nat→List Field→Option (List PK)
 | _,[]=>some []
 | n,f :: fs=>if f.offset == n&&f.name != "_" then (fkOf P f.type).bind fun k=>if Nat.beq k.length 0=true then none else (flds P (n+k.length) fs).map fun l=>k++l else none

def pks2Of (P:Program)(t:TypeId):Option (List PK) :=
 match P.underlying t with
 | some (.struct fs)=>if (!P.stoodInHeld t)=true then flds P 0 fs.toList else none
 | _=>none

def pkaOf (P:Program)(t:TypeId):Option (List PK) :=
 match P.underlying t with
 | some (.array n e)=>if P.cellsOf e == 1&&(P.info? e).isSome then (pkOf P e).map fun k=>List.replicate n k else none
 | _=>none

def shapeOf (P:Program)(t:TypeId):Option Shape :=
 match pkOf P t with
 | some k=>some (.one k)
 | none=>match pksOf P t with
  | some ks=>some (.agg ks)
  | none=>match pks2Of P t with
   | some ks=>some (.agg ks)
   | none=>(pkaOf P t).map .agg

def okFn (P:Program)(f:FuncId):Bool :=
 match P.funcs[f]? with
 | some fn=>fn.body.isSome&&fn.name != "runtime.NumGoroutine"
 | none=>false

def elemOf (P:Program)(t:TypeId):Option TypeId :=
 match P.underlying t with
 | some (.slice e)=>some e
 | _=>none

def tableOf (P:Program)(m:String):List (TypeId×FuncId) :=
 (List.range P.types.size).filterMap fun t =>
  match P.info? t with
  | some i =>
   match i.methods.find? (·.name == m) with
   | some m =>
    match m.path.size,m.func,P.underlying t with
    | _,_,some (.pointer _)=>none
    | 0,some (f,false),some _=>if okFn P f then some (t,f) else none
    | _,_,_=>none
   | none=>none
  | none=>none

def nckOk (P:Program)(n:String)(t:TypeId):Bool :=
 match P.info? t with
 | some i =>
  match i.methods.find? (·.name == n) with
  | some m =>
   match m.path.size,m.func,P.underlying t with
   | _,_,some (.pointer _)=>false
   | 0,some (_,false),some _=>true
   | _,_,_=>false
  | none=>false
 | none=>false
def nckAll (P:Program):List (String×TypeId) :=
 (List.range P.types.size).flatMap fun t =>
  match P.info? t with
  | some i=>i.methods.toList.filterMap fun m=>if nckOk P m.name t=true then some (m.name,t) else none
  | none=>[]

def compBin (P:Program)(op:BinOp)(t:TypeId)(x y:Operand):Option POp :=
 match P.underlying t with
 | some (.int _)=>some (.v (.ib op) [x,y])
 | some .string=>some (.v (.sb op) [x,y])
 | some .bool=>match op with
  | .eql=>some (.v (.bb false) [x,y])
  | .neq=>some (.v (.bb true) [x,y])
  | _=>none
 | some (.struct _)=>(pksOf P t).bind fun ks=>(match op with
  | .eql=>some (.v (.ag ks false) [x,y])
  | .neq=>some (.v (.ag ks true) [x,y])
  | _=>none)
 | some d=>(nilK d y).bind fun k=>(match op with
   | .eql=>some (.v (.nl k false) [x])
   | .neq=>some (.v (.nl k true) [x])
   | _=>none)
 | none=>none

def compCall (P:Program)(c:Call):Option POp :=
 match c.callee,c.args.toList with
 | .builtin .append,[s,x] =>
  match c.argTypes.toList with
  | [t,u] =>
   match elemOf P t,P.underlying u with
   | some e,some (.slice _)=>if P.bytesOf e < small∧0 < P.cellsOf e∧(zeroOf P e).isSome=true then some (.app e (P.cellsOf e) s x) else none
   | some e,some .string=>if P.bytesOf e < small∧P.cellsOf e=1∧(zeroOf P e).isSome=true then some (.app e (P.cellsOf e) s x) else none
   | _,_=>none
  | _=>none
 | .builtin .len,[x] =>
  match (c.argTypes[0]?).bind P.underlying with
  | some .string=>some (.v .slen [x])
  | some (.slice _)=>some (.v .len [x])
  | _=>none
 | .builtin .clear,[x] =>
  match c.argTypes.toList with
  | [t]=>(elemOf P t).bind fun e=>(zeroOf P e).bind fun z=>if 0 < P.cellsOf e then some (.clr z.cells.toList x) else none
  | _=>none
 | .builtin .min,[x,y]=>some (.v .mn [x,y])
 | .builtin .max,[x,y]=>some (.v .mx [x,y])
 | .value f,xs=>some (.call f xs)
 | .invoke r m,xs=>some (.inv r (tableOf P m) xs)
 | _,_=>none

def comp (P:Program)(L:List Tmp)(o:Oper):Option POp :=
 match o.op with
 | .move x | .assign x=>some (.v .mv [x])
 | .pick c a b=>some (.v .pick [c,a,b])
 | .alloc t=>(zeroOf P t).bind fun z=>if z.cells.size=P.cellsOf t then some (if o.dst.any (L.contains ·) then .lalloc t z else .alloc t z) else none
 | .box t x=>some (if o.dst.any (L.contains ·) then .lbox t x else .box t x)
 | .build t ps =>
  match P.underlying t,zeroOf P t with
  | some (.struct fs),some z=>if fs.toList.all (fun f=>(P.info? f.type).isSome)=false then none else (ps.toList.mapM fun (p:Nat×Operand)=>(fs[p.1]?).map fun (f:Field)=>(f.offset,P.cellsOf f.type)).map fun l=>.v (.bld z.cells.toList l) (ps.toList.map (·.2))
  | some (.array _ e),some z=>if (P.info? e).isSome=false then none else some (.v (.bld z.cells.toList (ps.toList.map fun (i,_)=>(i*P.cellsOf e,P.cellsOf e))) (ps.toList.map (·.2)))
  | _,_=>none
 | .buildSlice t len ps =>
  (elemOf P t).bind fun e=>(zeroOf P e).bind fun z=>if len*P.cellsOf e≤2 ^ 24∧z.cells.size=P.cellsOf e∧0 < P.cellsOf e then some (if o.dst.any (L.contains ·) then .lbs e (P.cellsOf e) z.cells.toList len ps.toList else .bs e (P.cellsOf e) z.cells.toList len ps.toList) else none
 | .load t a=>if known P t=true then some (.ld (cellsN P t) a) else none
 | .store t a x=>if known P t=true then some (.st (P.cellsOf t) a x) else none
 | .binOp op t x y _=>compBin P op t x y
 | .unOp .not _ x=>some (.v .no [x])
 | .unOp .neg _ x=>some (.v .ng [x])
 | .convert src dst x =>
  match P.underlying src,P.underlying dst with
  | some (.int _),some (.int k)=>some (.v (.cv k) [x])
  | some .string,some .string=>some (.v .sid [x])
  | some .string,some (.slice e)=>(match P.underlying e with | some (.int .u8)=>some (.s2b e x) | _=>none)
  | some (.slice e),some .string=>(match P.underlying e with | some (.int .u8)=>some (.b2s x) | _=>none)
  | _,_=>none
 | .makeInterface t x=>(match P.underlying t with | some (.interface _) | none=>none | _=>some (.v (.mki t) [x]))
 | .makeFunc (.func f) first cap=>if okFn P f then some (.v (.mkf (.func f) first.size) (first.toList++cap.toList)) else none
 | .makeFunc (.method name) first cap=>(match first.toList,cap.toList with | [x],[]=>some (.v (.mth name) [x]) | _,_=>none)
 | .nilCheck x=>some (.v (.nck (nckAll P)) [x])
 | .makeMap t r=>(match r,P.underlying t with | none,some (.map kt _)=>(shapeOf P kt).map .mkm | some (.const (.int _ _)),some (.map kt _)=>(shapeOf P kt).map .mkm | _,_=>none)
 | .makeSlice t l c=>(elemOf P t).bind fun e=>(zeroOf P e).bind fun z=>if z.cells.size=P.cellsOf e∧0 < P.cellsOf e then some (.mks e (P.cellsOf e) z.cells.toList (P.bytesOf e) l c) else none
 | .slice t x lo hi none =>
  match P.underlying t with
  | some .string=>some (.v (.sls lo.isSome hi.isSome) (x :: lo.toList++hi.toList))
  | some (.slice e)=>if known P e=true then some (.v (.sl (P.cellsOf e) lo.isSome hi.isSome) (x :: lo.toList++hi.toList)) else none
  | _=>none
 | .fieldAddr t x i =>
  match P.underlying t with
  | some (.struct fs)=>(fs[i]?).bind fun f=>if P.cellsOf f.type=0 then none else some (.v (.fa f.offset) [x])
  | _=>none
 | .field t x i =>
  match P.underlying t with
  | some (.struct fs)=>(fs[i]?).bind fun f=>if known P f.type=true then some (.v (.fld f.offset (cellsN P f.type)) [x]) else none
  | _=>none
 | .indexAddr t x i =>
  match P.underlying t with
  | some (.slice e)=>if known P e=true then some (.v (.ia (P.cellsOf e)) [x,i]) else none
  | some (.array n e)=>if known P e=true then some (.v (.iaa (P.cellsOf e) n) [x,i]) else none
  | _=>none
 | .index t x i =>
  match P.underlying t with
  | some .string=>some (.v .ix [x,i])
  | some (.array n e)=>if known P e=true then some (.v (.ixa (P.cellsOf e) n (cellsN P e)) [x,i]) else none
  | _=>none
 | .lookup t m k ok=>(match P.underlying t with | some (.map kt e)=>(shapeOf P kt).bind fun sh=>(zeroOf P e).map fun z=>.mlk sh z ok m k | _=>none)
 | .mapUpdate t m k x | .insert t m k x=>(match P.underlying t with | some (.map kt _)=>(shapeOf P kt).map fun sh=>.mup sh m k x | _=>none)
 | .range t x=>(match P.underlying t with | some .string=>some (.rng x) | _=>none)
 | .next x true=>some (.nxt x)
 | .typeAssert x _ t true=>(match P.underlying t with | some (.interface _) | none=>none | _=>(zeroOf P t).map fun z=>.v (.tas t z) [x])
 | .extract x i=>some (.v (.ext i) [x])
 | .call c=>compCall P c
 | .defer c=>(match c.callee with | .value f=>some (.dfr f c.args.toList) | _=>none)
 | .panic x=>some (.pnc x)
 | _=>none

def opndOk:Operand→Bool
 | .tmp _=>true
 | .const v=>flat 8 v
 | .global _=>false
 | .func _=>true

def strictP:POp→POp
 | .call (.func f) xs=>.call (.const (.func (.func f) #[] #[])) xs
 | p=>p
def markS (L:List Tmp):Option Tmp→Bool
 | some d=>L.contains (d+2000000)
 | none=>false
def strictL (L:List Tmp)(d:Option Tmp)(p:POp):POp:=if markS L d=true then strictP p else p
def compI (P:Program)(L:List Tmp)(ops:List Oper)(o:Oper):Option PIns :=
 if o.op.operands.toList.all opndOk=false then none else
 (comp P L o).bind fun p =>
  match o.guard with
  | none=>some ⟨o.dst,strictL L o.dst p,none⟩
  | some (j,w)=>((ops[j]?).bind (·.dst)).map fun t=>⟨o.dst,strictL L o.dst p,some (t,w)⟩

def befs:List Oper→List (List Nat)→List (List Nat)
 | [],acc=>acc
 | o :: r,acc=>befs r (acc++[(o.after.toList.filter (Region.binds .any ·)).flatMap fun e=>e.on :: acc.getD e.on []])

def tmpOf:Operand→Option Tmp
 | .tmp t=>some t
 | _=>none

def opTmps (o:PIns):List Tmp :=
 let f:List Operand→List Tmp:=fun l=>l.filterMap tmpOf
 (match o.guard with | some (t,_)=>[t] | none=>[]) ++
 match o.op with
 | .v _ xs=>f xs
 | .box _ x | .lbox _ x | .s2b _ x | .b2s x | .rng x | .nxt x | .pnc x=>f [x]
 | .alloc _ _ | .lalloc _ _ | .mkm _=>[]
 | .ld _ a | .clr _ a=>f [a]
 | .st _ a x=>f [a,x]
 | .bs _ _ _ _ ps | .lbs _ _ _ _ ps=>f (ps.map (·.2))
 | .mks _ _ _ _ l c=>f [l,c]
 | .app _ _ s x=>f [s,x]
 | .mlk _ _ _ m k=>f [m,k]
 | .mup _ m k x=>f [m,k,x]
 | .call x xs | .dfr x xs=>f (x :: xs)
 | .inv x _ xs=>f (x :: xs)

def rootOf (L:List Tmp)(ops:List PIns):Nat→Operand→Option Tmp
 | 0,_=>none
 | n+1,.tmp t =>
  if L.contains t then some t else
  match ops.find? (fun o=>o.dst == some t) with
  | some ⟨_,.v (.fa _) [x],_⟩=>rootOf L ops n x
  | some ⟨_,.v (.iaa _ _) [x,_],_⟩=>rootOf L ops n x
  | _=>none
 | _,_=>none

def clsOf (L:List Tmp)(ops:List PIns)(o:PIns):Nat :=
 match o.op with
 | .v _ _=>0
 | .lbox _ _ | .lalloc _ _ | .lbs _ _ _ _ _=>(o.dst.map (·+2)).getD 1
 | .ld _ a | .st _ a _=>((rootOf L ops 8 a).map (·+2)).getD 1
 | _=>1

def rh (o:PIns):Bool :=
 match o.op with
 | .ld _ _ | .b2s _ | .mlk _ _ _ _ _=>true
 | _=>false

def ah (o:PIns):Bool :=
 match o.op with
 | .box _ _ | .alloc _ _ | .bs _ _ _ _ _ | .mks _ _ _ _ _ _ | .s2b _ _ | .mkm _ | .rng _=>true
 | _=>false

def isLd (o:PIns):Bool:=match o.op with | .ld _ _=>true | _=>false

def opSlots (o:PIns):List Tmp:=match o.op with | .app _ _ _ (.tmp t) | .b2s (.tmp t)=>[t] | _=>[]

def rm (o:PIns):Bool:=match o.op with | .mlk _ _ _ _ _=>true | _=>false
def isMkm (o:PIns):Bool:=match o.op with | .mkm _=>true | _=>false
def hap (o p:PIns):Bool:=(rh o&&(!rm o||rh p||ah p))||(rh p&&(!rm p||rh o||ah o))||(ah o&&ah p)||(isMkm o&&isStrict p.op)
def apart (o p:PIns)(c d:Nat):Bool :=
 (match o.dst with | some t=>!(opTmps p).contains t&&p.dst != some t | none=>true) &&
 (match p.dst with | some t=>!(opTmps o).contains t | none=>true) &&
 ((opSlots o).all fun t=>d != t+2)&&((opSlots p).all fun t=>c != t+2) &&
 (c == 0||d == 0||(if c == 1&&d == 1 then hap o p else if c == d then isLd o&&isLd p else true))

def pairsOk (ops:List PIns)(cls:List Nat)(bf:List (List Nat)):Bool :=
 (List.range ops.length).all fun j=>(List.range j).all fun i =>
  (bf.getD j []).contains i||apart (ops.getD i default) (ops.getD j default) (cls.getD i 0) (cls.getD j 0)

def canP (o:PIns):Bool:=match o.op with | .call _ _ | .inv _ _ _=>true | _=>false

def flagsOf (ops:List PIns)(cls:List Nat)(bf:List (List Nat)):List Flag :=
 let ord (i j:Nat):Bool:=i == j||(bf.getD j []).contains i||(bf.getD i []).contains j
 (List.range ops.length).map fun i =>
  ⟨cls.getD i 0,(List.range ops.length).all fun j=>cls.getD j 0 != 1||ord i j,if canP (ops.getD i default)&&(List.range ops.length).all (fun j=>ord i j||(Nat.blt j i&&(cls.getD j 0 == 0||isLd (ops.getD j default)))) then some ((List.range i).filterMap fun j=>if (bf.getD i []).contains j then none else (ops.getD j default).dst) else none⟩

def renum (f:Nat→Nat)(o:Oper):Oper:={ o with after:=o.after.map fun e=>{ e with on:=f e.on },guard:=o.guard.map fun g=>(f g.1,g.2) }
def permO (q:List Nat)(ops:Array Oper):Array Oper:=(q.map fun i=>renum (fun k=>q.idxOf k) (ops.getD i default)).toArray
def permOk (q:List Nat)(n:Nat):Bool :=
 Nat.beq q.length n&&(List.range n).all fun i=>Nat.blt (q.getD i n) n&&Nat.beq (q.idxOf (q.getD i n)) i&&Nat.blt (q.idxOf i) n&&Nat.beq (q.getD (q.idxOf i) n) i
def ordQ (L:List Tmp)(ops:List Oper):List Nat :=
 let bf:=befs ops []
 match (List.range ops.length).find? fun i=>match (ops.getD i default).dst with | some d=>L.contains (d+1000000) | none=>false with
 | some i =>
  let late:=(List.range ops.length).filter fun j=>Nat.blt i j&&!(bf.getD j []).contains i
  List.range i++late++[i]++(List.range ops.length).filter fun j=>Nat.blt i j&&!late.contains j
 | none=>List.range ops.length
def ordL (L:List Tmp)(ops:Array Oper):Array Oper :=
 if L.any (fun t=>Nat.ble 1000000 t)=true then (if permOk (ordQ L ops.toList) ops.size=true then permO (ordQ L ops.toList) ops else ops) else ops

def compC (P:Program)(L:List Tmp):Code→Option PCode
 | .skip=>some .skip
 | .region _ ops false=>(ops.toList.mapM (compI P L ops.toList)).map .reg
 | .region _ ops true =>
  ((ordL L ops).toList.mapM (compI P L (ordL L ops).toList)).bind fun l =>
   let cls:=l.map (clsOf L l)
   let bf:=befs (ordL L ops).toList []
   if pairsOk l cls bf=true∧(ordL L ops).toList.zipIdx.all (fun (o,i)=>o.after.toList.all fun e=>!Region.binds .any e||e.on < i)=true then some (.dreg l (flagsOf l cls bf)) else none
 | .seq a b=>(compC P L a).bind fun a=>(compC P L b).map fun b=>.seq a b
 | .cond c a b=>(compC P L a).bind fun a=>(compC P L b).map fun b=>.cond c a b
 | .block id c=>(compC P L c).map (.blk id)
 | .loop c=>(compC P L c).map .loop
 | .rangeFunc f ps a b=>if opndOk f=true then (compC P L a).bind fun a=>(compC P L b).map fun b=>.rf f ps.toList a b else none
 | .exit id=>some (.exit id)
 | .scope c=>compC P L c
 | .label _=>some .skip
 | .ret=>some .ret
 | .goto _=>none
 | .refuse _=>none

def compRes (P:Program):ResultVar→(Tmp×Option (Option Nat))
 | .tmp t=>(t,none)
 | .cell a t=>(a,some (cellsN P t))

def resOk (P:Program):ResultVar→Bool
 | .tmp _=>true
 | .cell _ t=>known P t

def rcOf:Code→Option (Tmp×Code)
 | .seq (.region _ ops false) c =>
  match ops.toList with
  | [⟨some d,.call ⟨.builtin .recover,⟨[]⟩,_⟩,_,_,_,none⟩]=>some (d,c)
  | _=>none
 | _=>none

def compF (P:Program)(L:List Tmp)(f:FuncId):Option PFunc :=
 match P.funcs[f]? with
 | some fn=>if fn.name == "runtime.NumGoroutine" || !(fn.results.toList.all (resOk P)) then none else
  fn.body.bind fun c =>
   match rcOf c with
   | some (d,c)=>(compC P L c).map fun c=>⟨fn.ntmps,fn.results.toList.map (compRes P),some d,c⟩
   | none=>(compC P L c).map fun c=>⟨fn.ntmps,fn.results.toList.map (compRes P),none,c⟩
 | none=>none

end Go.Pi
