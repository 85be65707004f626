import Derived.Calls
import Derived.Orders
import Derived.Still
import Derived.KernelRfl
import Derived.Laws.Sem
import Derived.Laws.Small
import Derived.Tactics
import Derived.ChangeKeysEq
import Derived.Laws.StructEq

namespace Go.Ev

inductive SP where
 | loc (b o:Nat)
 | ext (a:Addr)

inductive Sc where
 | int (k:IntKind) (n:Int)
 | bool (b:Bool)
 | str (s:ByteArray)
 | ptr (p:Option SP)
 | slice (p:Option SP) (len cap:Nat)
 | buf (b len:Nat)
 | raw (v:Value)

inductive TC where
 | one (s:Sc)
 | agg (l:List Sc)

inductive TV where
 | one (s:Sc)
 | agg (l:List Sc)
 | tup (l:List TC)

def TC.tv:TC→TV
 | .one s=>.one s
 | .agg l=>.agg l

def TV.tc:TV→Option TC
 | .one s=>some (.one s)
 | .agg l=>some (.agg l)
 | .tup _=>none

abbrev Env:=List (Nat×TV)

def get:Env→Nat→Option TV
 | [],_=>none
 | (t,v)::r,s=>match Nat.beq t s with
  | true=>some v
  | false=>get r s

structure Blk where
 cells:List Sc
 elem:TypeId
 es:Nat
 grows:Bool

abbrev Mem:=List (Option Blk)

inductive TK where
 | struct (fs:List (Nat×Nat×Bool))
 | array (n esize:Nat) (eagg:Bool)
 | slice (elem esize ebytes:Nat) (eagg:Bool)
 | int (k:IntKind)
 | bool
 | string
 | other

structure TyI where
 agg:Bool
 size:Nat
 zero:List Sc
 eqok:Bool
 k:TK

abbrev Tys:=List (Nat×TyI)

def lk:Tys→Nat→Option TyI
 | [],_=>none
 | (t,v)::r,s=>match Nat.beq t s with
  | true=>some v
  | false=>lk r s

def one1:Value→Bool
 | .agg _ | .tuple _=>false
 | _=>true

def cst1:Value→Sc
 | .int k n=>.int k n
 | .bool b=>.bool b
 | .string s=>.str s
 | .pointer none=>.ptr none
 | .slice none l c=>.slice none l c
 | v=>.raw v

def cstL:List Value→Option (List Sc)
 | []=>some []
 | v::vs=>match one1 v with
  | true=>match cstL vs with
   | some l=>some (cst1 v::l)
   | none=>none
  | false=>none

def cst:Value→Option TV
 | .agg ⟨cs⟩=>match cstL cs with
  | some l=>some (.agg l)
  | none=>none
 | .tuple _=>none
 | v=>some (.one (cst1 v))

def opv (e:Env):Operand→Option TV
 | .tmp t=>get e t
 | .const v=>cst v
 | .global g=>some (.one (.ptr (some (.ext ⟨g,0,none⟩))))
 | .func f=>some (.one (.raw (.func (.func f) #[] #[])))

def getOps (e:Env):List Operand→Option (List TV)
 | []=>some []
 | x::xs=>match opv e x with
  | some v=>match getOps e xs with
   | some vs=>some (v::vs)
   | none=>none
  | none=>none

def TV.cells:TV→Option (List Sc)
 | .one s=>some [s]
 | .agg l=>some l
 | .tup _=>none

def takeAt:List Sc→Nat→Nat→Option (List Sc)
 | _,0,0=>some []
 | [],_,_=>none
 | c::cs,0,n+1=>match takeAt cs 0 n with
  | some r=>some (c::r)
  | none=>none
 | _::cs,o+1,n=>takeAt cs o n

def putAt:List Sc→Nat→List Sc→Option (List Sc)
 | cs,0,[]=>some cs
 | [],_,_=>none
 | _::cs,0,v::vs=>match putAt cs 0 vs with
  | some r=>some (v::r)
  | none=>none
 | c::cs,o+1,vs=>match putAt cs o vs with
  | some r=>some (c::r)
  | none=>none

def nth:Mem→Nat→Option Blk
 | [],_=>none
 | b::_,0=>b
 | _::m,n+1=>nth m n

def setB:Mem→Nat→Option Blk→Mem
 | [],_,_=>[]
 | _::m,0,x=>x::m
 | b::m,n+1,x=>b::setB m n x

def snoc:Mem→Option Blk→Nat×Mem
 | [],x=>(0,[x])
 | b::m,x=>match snoc m x with
  | (n,m')=>(n+1,b::m')

def kEq:IntKind→IntKind→Bool
 | .i8,.i8 | .i16,.i16 | .i32,.i32 | .i64,.i64 | .u8,.u8 | .u16,.u16 | .u32,.u32 | .u64,.u64=>true
 | _,_=>false

def wr (k:IntKind) (n:Int):Sc:=
 match k with
 | .u64=>.int .u64 (n%18446744073709551616)
 | .u32=>.int .u32 (n%4294967296)
 | .u8=>.int .u8 (n%256)
 | k=>.int k (k.wrap n)

def bits (op:BinOp) (k:IntKind) (x y:Int):Option Int:=
 match op with
 | .and=>some (k.wrap (BitVec.ofInt k.bits x &&& BitVec.ofInt k.bits y).toNat)
 | .or=>some (k.wrap (BitVec.ofInt k.bits x ||| BitVec.ofInt k.bits y).toNat)
 | .xor=>some (k.wrap (BitVec.ofInt k.bits x ^^^ BitVec.ofInt k.bits y).toNat)
 | .andNot=>some (k.wrap (BitVec.ofInt k.bits x &&& ~~~BitVec.ofInt k.bits y).toNat)
 | _=>none

def bopI (op:BinOp) (k:IntKind) (a:Int) (k':IntKind) (b:Int):Option Sc:=
 match op with
 | .shl=>match decide (b<0) with
  | true=>none
  | false=>some (wr k (a*2^(min b.toNat k.bits)))
 | .shr=>match decide (b<0) with
  | true=>none
  | false=>some (.int k (a.fdiv (2^(min b.toNat k.bits))))
 | op=>match kEq k k' with
  | false=>none
  | true=>match op with
   | .add=>some (wr k (a+b))
   | .sub=>some (wr k (a-b))
   | .mul=>some (wr k (a*b))
   | .quo=>match decide (b=0) with
    | true=>none
    | false=>some (.int k (k.wrap (a.tdiv b)))
   | .rem=>match decide (b=0) with
    | true=>none
    | false=>some (.int k (a.tmod b))
   | .eql=>some (.bool (a==b))
   | .neq=>some (.bool (a != b))
   | .lss=>some (.bool (decide (a<b)))
   | .leq=>some (.bool (decide (a≤b)))
   | .gtr=>some (.bool (decide (a > b)))
   | .geq=>some (.bool (decide (a ≥ b)))
   | op=>match bits op k a b with
    | some n=>some (.int k n)
    | none=>none

def eqCells:List Sc→List Sc→List Sc→Option Bool
 | [],[],[]=>some true
 | .int k _::zs,.int k' a::xs,.int k'' b::ys=>match kEq k k',kEq k k'' with
  | true,true=>match eqCells zs xs ys with
   | some r=>some ((a==b)&&r)
   | none=>none
  | _,_=>none
 | .bool _::zs,.bool a::xs,.bool b::ys=>match eqCells zs xs ys with
  | some r=>some ((a==b)&&r)
  | none=>none
 | _,_,_=>none

def bop (T:Tys) (op:BinOp) (t:TypeId) (x y:TV):Option TV:=
 match x,y with
 | .one (.int k a),.one (.int k' b)=>match bopI op k a k' b with
  | some s=>some (.one s)
  | none=>none
 | .one (.bool a),.one (.bool b)=>match lk T t,op with
  | some { k:=.bool,.. },.eql=>some (.one (.bool (a==b)))
  | some { k:=.bool,.. },.neq=>some (.one (.bool (!(a==b))))
  | _,_=>none
 | .agg xs,.agg ys=>match lk T t,op with
  | some { eqok:=true,zero:=z,.. },.eql=>match eqCells z xs ys with
   | some b=>some (.one (.bool b))
   | none=>none
  | some { eqok:=true,zero:=z,.. },.neq=>match eqCells z xs ys with
   | some b=>some (.one (.bool (!b)))
   | none=>none
  | _,_=>none
 | _,_=>none

def uop (op:UnOp) (x:TV):Option TV:=
 match op,x with
 | .not,.one (.bool b)=>some (.one (.bool (!b)))
 | .neg,.one (.int k n)=>some (.one (wr k (0-n)))
 | .xor,.one (.int k n)=>match bits .xor k (if k.signed then -1 else k.max) n with
  | some r=>some (.one (.int k r))
  | none=>none
 | _,_=>none

def partV (agg:Bool) (size:Nat) (l:List Sc) (o:Nat):Option TV:=
 match agg with
 | true=>match takeAt l o size with
  | some r=>some (.agg r)
  | none=>none
 | false=>match takeAt l o 1 with
  | some [c]=>some (.one c)
  | _=>none

def SP.add:SP→Nat→SP
 | .loc b o,n=>.loc b (o+n)
 | .ext a,n=>.ext (a.add n)

def nthF:List (Nat×Nat×Bool)→Nat→Option (Nat×Nat×Bool)
 | [],_=>none
 | f::_,0=>some f
 | _::fs,n+1=>nthF fs n

def fillS (fs:List (Nat×Nat×Bool)):List Sc→List (Nat×TV)→Option (List Sc)
 | cs,[]=>some cs
 | cs,(i,v)::r=>match nthF fs i,v.cells with
  | some (off,size,_),some vs=>match Nat.beq size vs.length with
   | true=>match putAt cs off vs with
    | some cs'=>fillS fs cs' r
    | none=>none
   | false=>none
  | _,_=>none

def fillA (esize:Nat):List Sc→List (Nat×TV)→Option (List Sc)
 | cs,[]=>some cs
 | cs,(i,v)::r=>match v.cells with
  | some vs=>match Nat.beq esize vs.length with
   | true=>match putAt cs (i*esize) vs with
    | some cs'=>fillA esize cs' r
    | none=>none
   | false=>none
  | none=>none

def opvP (e:Env):List (Nat×Operand)→Option (List (Nat×TV))
 | []=>some []
 | (i,x)::xs=>match opv e x with
  | some v=>match opvP e xs with
   | some vs=>some ((i,v)::vs)
   | none=>none
  | none=>none

def nthC:List TC→Nat→Option TC
 | [],_=>none
 | c::_,0=>some c
 | _::cs,n+1=>nthC cs n

def bound (e:Env) (x:Option Operand) (dflt:Nat):Option Int:=
 match x with
 | none=>some dflt
 | some x=>match opv e x with
  | some (.one (.int _ n))=>some n
  | _=>none

def pval (T:Tys) (op:Op) (e:Env):Option TV:=
 match op with
 | .move x | .assign x=>opv e x
 | .pick c a b=>match opv e c with
  | some (.one (.bool true))=>opv e a
  | some (.one (.bool false))=>opv e b
  | _=>none
 | .nilCheck x=>match opv e x with
  | some (.one (.ptr (some p)))=>some (.one (.ptr (some p)))
  | _=>none
 | .binOp op t x y _=>match opv e x,opv e y with
  | some a,some b=>bop T op t a b
  | _,_=>none
 | .unOp op _ x=>match opv e x with
  | some a=>uop op a
  | none=>none
 | .convert s d x=>match lk T s,lk T d,opv e x with
  | some _,some { k:=.int k,.. },some (.one (.int _ n))=>some (.one (wr k n))
  | _,_,_=>none
 | .extract x i=>match opv e x with
  | some (.tup l)=>match nthC l i with
   | some c=>some c.tv
   | none=>none
  | _=>none
 | .fieldAddr s x f=>match lk T s,opv e x with
  | some { k:=.struct fs,.. },some (.one (.ptr (some p)))=>match nthF fs f with
   | some (off,_,_)=>some (.one (.ptr (some (p.add off))))
   | none=>none
  | _,_=>none
 | .field s x f=>match lk T s,opv e x with
  | some { k:=.struct fs,.. },some (.agg l)=>match nthF fs f with
   | some (off,size,agg)=>partV agg size l off
   | none=>none
  | _,_=>none
 | .indexAddr t x i=>match lk T t,opv e x,opv e i with
  | some { k:=.array n es _,.. },some (.one (.ptr (some p))),some (.one (.int _ j))=>
   match decide (0≤j∧j<(n:Int)) with
   | true=>some (.one (.ptr (some (p.add (j.toNat*es)))))
   | false=>none
  | some { k:=.slice _ es _ _,.. },some (.one (.slice (some p) len _)),some (.one (.int _ j))=>
   match decide (0≤j∧j<(len:Int)) with
   | true=>some (.one (.ptr (some (p.add (j.toNat*es)))))
   | false=>none
  | some { k:=.slice _ es _ _,.. },some (.one (.buf b len)),some (.one (.int _ j))=>
   match decide (0≤j∧j<(len:Int)) with
   | true=>some (.one (.ptr (some (.loc b (j.toNat*es)))))
   | false=>none
  | _,_,_=>none
 | .index t x i=>match lk T t,opv e x,opv e i with
  | some { k:=.array n es ag,.. },some (.agg l),some (.one (.int _ j))=>
   match decide (0≤j∧j<(n:Int)) with
   | true=>partV ag es l (j.toNat*es)
   | false=>none
  | _,_,_=>none
 | .build t ps=>match lk T t,opvP e ps.toList with
  | some { k:=.struct fs,zero:=z,.. },some vs=>match fillS fs z vs with
   | some l=>some (.agg l)
   | none=>none
  | some { k:=.array _ es _,zero:=z,.. },some vs=>match fillA es z vs with
   | some l=>some (.agg l)
   | none=>none
  | _,_=>none
 | .sliceToArrayPointer t x=>match lk T t,opv e x with
  | some { k:=.array n _ _,.. },some (.one (.slice p len _))=>match Nat.ble n len with
   | true=>some (.one (.ptr p))
   | false=>none
  | _,_=>none
 | .slice t x lo hi none=>match lk T t,opv e x with
  | some { k:=.array n es _,.. },some (.one (.ptr (some p)))=>match bound e lo 0,bound e hi n with
   | some l,some h=>match decide (0≤h∧h≤(n:Int)∧0≤l∧l≤h) with
    | true=>match Nat.beq l.toNat n with
     | true=>some (.one (.slice (some p) (h.toNat-l.toNat) (n-l.toNat)))
     | false=>some (.one (.slice (some (p.add (l.toNat*es))) (h.toNat-l.toNat) (n-l.toNat)))
    | false=>none
   | _,_=>none
  | some { k:=.slice _ es _ _,.. },some (.one (.slice (some p) len cap))=>match bound e lo 0,bound e hi len with
   | some l,some h=>match decide (len≤cap∧0≤h∧h≤(cap:Int)∧0≤l∧l≤h) with
    | true=>match Nat.beq l.toNat cap with
     | true=>some (.one (.slice (some p) (h.toNat-l.toNat) (cap-l.toNat)))
     | false=>some (.one (.slice (some (p.add (l.toNat*es))) (h.toNat-l.toNat) (cap-l.toNat)))
    | false=>none
   | _,_=>none
  | _,_=>none
 | .call { callee:=.builtin .len,args:=xs,argTypes:=ts }=>match ts.toList with
  | t::_=>match lk T t,getOps e xs.toList with
   | some { k:=.slice _ _ _ _,.. },some [.one (.slice _ len _)]=>some (.one (.int .i64 len))
   | some { k:=.slice _ _ _ _,.. },some [.one (.buf _ len)]=>some (.one (.int .i64 len))
   | _,_=>none
  | _=>none
 | _=>none

structure Con where
 ι:Nat→Nat
 κ:Nat→Nat

def SP.conc (c:Con):SP→Addr
 | .loc b o=>⟨c.ι b,o,none⟩
 | .ext a=>a

def Sc.conc (c:Con):Sc→Value
 | .int k n=>.int k n
 | .bool b=>.bool b
 | .str s=>.string s
 | .ptr p=>.pointer (p.map (SP.conc c))
 | .slice p l k=>.slice (p.map (SP.conc c)) l k
 | .buf b l=>.slice (some ⟨c.ι b,0,none⟩) l (c.κ b)
 | .raw v=>v

def TC.conc (c:Con):TC→Value
 | .one s=>s.conc c
 | .agg l=>.agg (l.map (Sc.conc c)).toArray

def TV.conc (c:Con):TV→Value
 | .one s=>s.conc c
 | .agg l=>.agg (l.map (Sc.conc c)).toArray
 | .tup l=>.tuple (l.map (TC.conc c)).toArray

def SP.closed (n:Nat):SP→Bool
 | .loc b _=>Nat.blt b n
 | .ext _=>true

def Sc.closed (n:Nat):Sc→Bool
 | .ptr (some p)=>p.closed n
 | .slice (some p) _ _=>p.closed n
 | .buf b _=>Nat.blt b n
 | .raw v=>one1 v
 | _=>true

def closedL (n:Nat):List Sc→Bool
 | []=>true
 | s::l=>match s.closed n with
  | true=>closedL n l
  | false=>false

def TC.closed (n:Nat):TC→Bool
 | .one s=>s.closed n
 | .agg l=>closedL n l

def closedT (n:Nat):List TC→Bool
 | []=>true
 | s::l=>match s.closed n with
  | true=>closedT n l
  | false=>false

def TV.closed (n:Nat):TV→Bool
 | .one s=>s.closed n
 | .agg l=>closedL n l
 | .tup l=>closedT n l

def closedTs (n:Nat):List TV→Bool
 | []=>true
 | v::l=>match v.closed n with
  | true=>closedTs n l
  | false=>false

def closedMs (n:Nat):Mem→Bool
 | []=>true
 | some x::l=>match closedL n x.cells with
  | true=>closedMs n l
  | false=>false
 | none::l=>closedMs n l

def Con0:Con:=⟨fun _=>0,fun _=>0⟩

def ExtRead (W0:World) (agg:Bool) (size:Nat) (a:Addr) (v:TV):Prop:=
 match agg with
 | false=>∃ s:Sc,W0.cell? a=some (s.conc Con0)∧s.closed 0=true∧v=.one s
 | true=>∃ l:List Sc,l.length=size∧(∀ i s,l[i]?=some s→W0.cell? (a.add i)=some (s.conc Con0))∧closedL 0 l=true∧v=.agg l

structure RelM (W0:World) (c:Con) (m:Mem) (w:World):Prop where
 blk:∀ b x,nth m b=some x→∃ junk:List Value,w.heap[c.ι b]?=some (.cells (x.cells.map (Sc.conc c)++junk).toArray x.elem (0,0)) ∧
  (x.grows=false→junk=[])∧(x.grows=true→x.cells.length+junk.length=c.κ b*x.es)
 cl:∀ b x,nth m b=some x→closedL m.length x.cells=true
 inj:∀ a b x y,nth m a=some x→nth m b=some y→c.ι a=c.ι b→a=b
 ge:∀ b,b<m.length→W0.heap.size≤c.ι b
 lt:∀ b,b<m.length→c.ι b<w.heap.size
 ext:∀ r,r<W0.heap.size→w.heap[r]?=W0.heap[r]?
 size:W0.heap.size≤w.heap.size
 os:w.os=W0.os
 tape:w.tape=W0.tape
 output:w.output=W0.output

structure Since (c0:Con) (m0:Mem) (w0:World) (c:Con) (m:Mem) (w:World):Prop where
 le:m0.length≤m.length
 agree:∀ b,b<m0.length→c.ι b=c0.ι b∧c.κ b=c0.κ b
 size:w0.heap.size≤w.heap.size
 keep:∀ r,r<w0.heap.size→(∀ b x,nth m0 b=some x→c0.ι b≠r)→w.heap[r]?=w0.heap[r]?
 fresh:∀ b x,nth m b=some x→m0.length≤b→w0.heap.size≤c.ι b∨∃ d y,nth m0 d=some y∧c.ι b=c0.ι d
 live:∀ b x,nth m b=some x→b<m0.length→∃ y,nth m0 b=some y

def Enters (P:Program) (f:FuncId):Prop:=∀ (A:Array Value) (w:World),(callFunc f A).run P w=.ok (.enter f A) w

def CALL (P:Program) (W0:World) (f:FuncId) (args:List TV) (m:Mem) (K:TV→Mem→Prop):Prop:=
 Enters P f∧∀ (c:Con) (w:World),RelM W0 c m w→(∀ v∈args,v.closed m.length=true) →
  Calls P f (args.map (TV.conc c)).toArray w fun e w'=>∃ v m' c',e=.returned (v.conc c')∧RelM W0 c' m' w'∧Since c m w c' m' w'∧v.closed m'.length=true∧K v m'

inductive Prim where
 | add64 | sub64 | mul64

structure Cfg where
 P:Program
 W0:World
 T:Tys
 prim:Nat→Option Prim
 reads:Nat→Bool

def primC (p:Prim) (args:List TV) (K:TV→Prop):Prop:=
 match p,args with
 | .add64,[.one (.int .u64 x),.one (.int .u64 y),.one (.int .u64 c)]=>(0≤x∧0≤y∧0≤c∧c≤1) ∧
   ∀ s t:Int,s+18446744073709551616*t=x+y+c→0≤s→s<18446744073709551616→0≤t→K (.tup [.one (.int .u64 s),.one (.int .u64 t)])
 | .sub64,[.one (.int .u64 x),.one (.int .u64 y),.one (.int .u64 c)]=>(0≤x∧x<18446744073709551616∧0≤y∧y<18446744073709551616∧0≤c∧c≤1) ∧
   ∀ s t:Int,s-18446744073709551616*t=x-y-c→0≤s→s<18446744073709551616→0≤t→t≤1→K (.tup [.one (.int .u64 s),.one (.int .u64 t)])
 | .mul64,[.one (.int .u64 x),.one (.int .u64 y)]=>(0≤x∧x<18446744073709551616∧0≤y∧y<18446744073709551616) ∧
   ∀ s t:Int,18446744073709551616*s+t=x*y→0≤s→s<18446744073709551616→0≤t→t<18446744073709551616→18446744073709551616*s+t≤340282366920938463426481119284349108225→K (.tup [.one (.int .u64 s),.one (.int .u64 t)])
 | _,_=>False

def acall (G:Cfg) (f:FuncId) (args:List TV) (m:Mem) (K:TV→Mem→Prop):Prop:=
 match G.prim f with
 | some p=>primC p args fun v=>K v m
 | none=>match G.reads f with
  | true=>match closedTs m.length args&&closedMs m.length m with
   | true=>∃ v,CALL G.P G.W0 f args m (fun v' m'=>v'=v∧m'=m)∧v.closed m.length=true∧K v m
   | false=>False
  | false=>∃ R,CALL G.P G.W0 f args m R∧(∃ v m',R v m')∧∀ v m',R v m'→K v m'

def aload (G:Cfg) (t:TypeId) (x:TV) (m:Mem) (K:TV→Mem→Prop):Prop:=
 match lk G.T t,x with
 | some i,.one (.ptr (some (.loc b o)))=>match nth m b with
  | some k=>match partV i.agg i.size k.cells o with
   | some v=>K v m
   | none=>False
  | none=>False
 | some i,.one (.ptr (some (.ext a)))=>∃ v,ExtRead G.W0 i.agg i.size a v∧K v m
 | _,_=>False

def astore (G:Cfg) (t:TypeId) (x v:TV) (m:Mem):Option Mem:=
 match lk G.T t,x,v.cells with
 | some i,.one (.ptr (some (.loc b o))),some vs=>match nth m b with
  | some ⟨l,el,es,gr⟩=>match Nat.beq i.size vs.length with
   | true=>match putAt l o vs with
    | some cs=>some (setB m b (some ⟨cs,el,es,gr⟩))
    | none=>none
   | false=>none
  | none=>none
 | _,_,_=>none

def acopy (G:Cfg) (ts:List TypeId) (args:List TV) (m:Mem):Option (TV×Mem):=
 match ts,args with
 | t::_,[.one (.slice (some (.loc b o)) dl _),.one (.slice (some (.loc b' o')) sl _)]=>match lk G.T t,nth m b,nth m b' with
  | some { k:=.slice _ es _ _,.. },some ⟨l,el,es',gr⟩,some y=>match takeAt y.cells o' (Nat.min sl dl*es) with
   | some vs=>match putAt l o vs with
    | some cs=>some (.one (.int .i64 (Nat.min sl dl:Nat)),setB m b (some ⟨cs,el,es',gr⟩))
    | none=>none
   | none=>none
  | _,_,_=>none
 | _,_=>none

def newOp:Op→Option (TypeId×Nat×List (Nat×Operand))
 | .buildSlice t n ps=>some (t,n,ps.toList)
 | _=>none

def repS:Nat→List Sc→List Sc
 | 0,_=>[]
 | n+1,z=>z++repS n z

def abuild (G:Cfg) (t:TypeId) (n:Nat) (vs:List (Nat×TV)) (m:Mem):Option (TV×Mem):=
 match lk G.T t with
 | some { k:=.slice el es _ _,.. }=>match lk G.T el with
  | some i=>match decide (n*es≤16777216∧i.zero.length=es) with
   | true=>match fillA es (repS n i.zero) vs with
    | some cs=>match snoc m (some ⟨cs,el,0,false⟩) with
     | (b,m')=>some (.one (.slice (some (.loc b 0)) n n),m')
    | none=>none
   | false=>none
  | none=>none
 | _=>none

def optM (r:Option (TV×Mem)) (K:TV→Mem→Prop):Prop:=
 match r with
 | some (v,m)=>K v m
 | none=>False

def aop (G:Cfg) (o:Oper) (e:Env) (m:Mem) (K:TV→Mem→Prop):Prop:=
 match o.op with
 | .alloc t=>match lk G.T t with
  | some i=>match snoc m (some ⟨i.zero,t,0,false⟩) with
   | (b,m')=>K (.one (.ptr (some (.loc b 0)))) m'
  | none=>False
 | .box t x=>match opv e x with
  | some v=>match v.cells with
   | some cs=>match snoc m (some ⟨cs,t,0,false⟩) with
    | (b,m')=>K (.one (.ptr (some (.loc b 0)))) m'
   | none=>False
  | none=>False
 | .load t x=>match opv e x with
  | some v=>aload G t v m K
  | none=>False
 | .store t x y=>match opv e x,opv e y with
  | some v,some u=>match astore G t v u m with
   | some m'=>K (.tup []) m'
   | none=>False
  | _,_=>False
 | .call { callee:=.value (.func f),args:=xs,argTypes:=_ }=>match getOps e xs.toList with
  | some vs=>acall G f vs m K
  | none=>False
 | .call { callee:=.builtin .copy,args:=xs,argTypes:=ts }=>match getOps e xs.toList with
  | some vs=>optM (acopy G ts.toList vs m) K
  | none=>False
 | op=>match newOp op with
  | some (t,n,ps)=>match opvP e ps with
   | some vs=>optM (abuild G t n vs m) K
   | none=>False
  | none=>match pval G.T op e with
   | some v=>K v m
   | none=>False

def putE (d:Option Tmp) (v:TV) (e:Env):Env:=
 match d with
 | some t=>(t,v)::e
 | none=>e

def wantedA (ops:List Oper) (g:Option (Nat×Bool)) (e:Env):Option Bool:=
 match g with
 | none=>some true
 | some (j,want)=>match ops[j]? with
  | some o=>match o.dst with
   | some t=>match get e t with
    | some (.one (.bool b))=>some (b==want)
    | some (.tup [])=>some false
    | _=>none
   | none=>none
  | none=>none

def aops (G:Cfg) (all:List Oper):List Oper→Env→Mem→(Env→Mem→Prop)→Prop
 | [],e,m,K=>K e m
 | o::r,e,m,K=>match wantedA all o.guard e with
  | some true=>aop G o e m fun v m'=>aops G all r (putE o.dst v e) m' K
  | some false=>aops G all r (putE o.dst (.tup []) e) m K
  | none=>False

def restr (K:Env→Prop) (e:Env):List Nat→Env→Prop
 | [],acc=>K acc
 | t::ts,acc=>match get e t with
  | some v=>restr K e ts ((t,v)::acc)
  | none=>restr K e ts acc

def dom:Env→List Nat→List Nat
 | [],acc=>acc
 | (t,_)::e,acc=>match acc.contains t with
  | true=>dom e acc
  | false=>dom e (t::acc)

def loopN (body:(Exit→Env→Mem→Prop)→Env→Mem→Prop) (d:List Nat) (Q:Exit→Env→Mem→Prop):Nat→Env→Mem→Prop
 | 0,_,_=>False
 | k+1,e,m=>body (fun x e' m'=>match x with
  | .normal=>restr (fun e''=>loopN body d Q k e'' m') e' d []
  | x=>Q x e' m') e m

structure Fits (c:Con) (n:Nat) (e:Env) (a:Act):Prop where
 get:∀ t v,get e t=some v→a.tmps.getD t undef=v.conc c∧v.closed n=true
 defers:a.defers=[]

structure St (G:Cfg) (N:Nat) (c:Con) (m:Mem) (e:Env) (a:Act) (w:World):Prop where
 rel:RelM G.W0 c m w
 fits:Fits c m.length e a
 size:N≤a.tmps.size

def Post (G:Cfg) (N:Nat) (c:Con) (m:Mem) (w:World) (Q:Exit→Env→Mem→Prop):Exit→Act→World→Prop:=
 fun x a' w'=>∃ e' m' c',Q x e' m'∧St G N c' m' e' a' w'∧Since c m w c' m' w'

def opKind (G:Cfg):Op→Nat
 | .alloc _=>3
 | .box .. | .store ..=>2
 | .load ..=>1
 | .call { callee:=.value (.func f),args:=_,argTypes:=_ }=>match G.prim f with
  | some _=>1
  | none=>match G.reads f with
   | true=>1
   | false=>2
 | .call { callee:=.builtin .copy,args:=_,argTypes:=_ }=>2
 | op=>match newOp op with
  | some _=>2
  | none=>0

def compat (i j:Nat):Bool:=
 match i,j with
 | 0,_=>true
 | _,0=>true
 | 1,1=>true
 | 1,3=>true
 | _,_=>false

def behind (i:Nat):List Oper→Nat→Nat→Nat
 | [],_,A=>A
 | o::r,j,A=>match o.after.any (fun e=>Region.binds .any e&&(Nat.beq e.on i||A.testBit e.on)) with
  | true=>behind i r (j+1) (A ||| (1 <<< j))
  | false=>behind i r (j+1) A

def freeA (G:Cfg) (ops:Array Oper) (listed:Array Bool) (i:Nat) (oi:Oper) (A:Nat):Bool:=
 (List.range ops.size).all fun j=>match A.testBit j with
  | true=>(listed.getD j true==false)&&match ops[j]? with
   | some oj=>oj.after.any (fun e=>Region.binds .any e&&(Nat.beq e.on i||(Nat.blt e.on ops.size&&A.testBit e.on)))
   | none=>false
  | false=>j==i||listed.getD j true||match ops[j]? with
   | some oj=>oi.apart ops oj&&compat (opKind G oi.op) (opKind G oj.op)
   | none=>true

def freeK (G:Cfg) (ops:Array Oper) (listed:Array Bool) (i:Nat):Bool:=
 match ops[i]? with
 | none=>false
 | some oi=>freeA G ops listed i oi (behind i ops.toList 0 0)

def lexK (G:Cfg) (ops:Array Oper):Nat→Nat→Array Bool→Bool
 | 0,_,listed=>(Region.ready .any ops listed).isEmpty
 | fuel+1,k,listed=>(Region.ready .any ops listed).contains k&&freeK G ops listed k&&lexK G ops fuel (k+1) (listed.setIfInBounds k true)

def dstOk (N:Nat) (o:Oper):Bool:=
 match o.dst with
 | some t=>Nat.blt t N
 | none=>true

def okCode (G:Cfg) (N:Nat):Code→Bool
 | .region _ ops draw=>match ops.toList.all (dstOk N) with
  | true=>match draw with
   | true=>lexK G ops ops.size 0 (Array.replicate ops.size false)
   | false=>true
  | false=>false
 | .seq a b | .cond _ a b=>match okCode G N a with
  | true=>okCode G N b
  | false=>false
 | .block _ b | .loop b=>okCode G N b
 | _=>true

def SEM (G:Cfg) (cd:Code) (Q:Exit→Env→Mem→Prop) (e:Env) (m:Mem):Prop:=
 ∀ (N:Nat) (c:Con) (a:Act) (w:World),okCode G N cd=true→St G N c m e a w→cd.wp G.P (Post G N c m w Q) a w

def swp (G:Cfg):Code→(Exit→Env→Mem→Prop)→Env→Mem→Prop
 | .skip,Q,e,m=>Q .normal e m
 | .region _ ops _,Q,e,m=>aops G ops.toList ops.toList e m (Q .normal)
 | .seq a b,Q,e,m=>swp G a (fun x e' m'=>match x with
  | .normal=>swp G b Q e' m'
  | x=>Q x e' m') e m
 | .cond c a b,Q,e,m=>match opv e c with
  | some (.one (.bool t))=>match t with
   | true=>swp G a Q e m
   | false=>swp G b Q e m
  | _=>False
 | .block id b,Q,e,m=>swp G b (fun x e' m'=>match x with
  | .exit i=>match Nat.beq i id with
   | true=>Q .normal e' m'
   | false=>Q (.exit i) e' m'
  | x=>Q x e' m') e m
 | .loop b,Q,e,m=>(∃ k,loopN (swp G b) (dom e []) Q k e m)∨SEM G (.loop b) Q e m
 | .exit id,Q,e,m=>Q (.exit id) e m
 | .ret,Q,e,m=>Q .ret e m
 | .label _,Q,e,m=>Q .normal e m
 | _,_,_,_=>False

def ares (G:Cfg):List ResultVar→Env→Mem→(List TC→Prop)→Prop
 | [],_,_,K=>K []
 | .tmp t::r,e,m,K=>match get e t with
  | some v=>match v.tc with
   | some c=>ares G r e m fun l=>K (c::l)
   | none=>False
  | none=>False
 | .cell t ty::r,e,m,K=>match get e t with
  | some v=>aload G ty v m fun u _=>match u.tc with
   | some c=>ares G r e m fun l=>K (c::l)
   | none=>False
  | none=>False

def outV:List TC→TV
 | [c]=>c.tv
 | l=>.tup l

def post (G:Cfg) (rs:Array ResultVar) (K:TV→Mem→Prop):Exit→Env→Mem→Prop
 | .normal,e,m | .ret,e,m=>ares G rs.toList e m fun l=>K (outV l) m
 | _,_,_=>False

def ienv:Nat→List TV→Env
 | _,[]=>[]
 | n,v::vs=>(n,v)::ienv (n+1) vs

end Go.Ev

namespace Go.Ev

theorem takeAt_spec:∀ {l:List Sc} {o n:Nat} {r:List Sc},takeAt l o n=some r→r=(l.drop o).take n∧o+n≤l.length
 | [],0,0,r,h=>by simp [takeAt] at h; simp [← h]
 | _::_,0,0,r,h=>by simp [takeAt] at h; simp [← h]
 | [],0,n+1,r,h=>by simp [takeAt] at h
 | [],o+1,n,r,h=>by simp [takeAt] at h
 | c::cs,0,n+1,r,h=>by
  simp only [takeAt] at h
  split at h
  ·rename_i r' hr
   obtain ⟨e1,e2⟩:=takeAt_spec hr
   simp only [Option.some.injEq] at h
   subst h; subst e1
   simp at e2 ⊢; omega
  ·cases h
 | c::cs,o+1,n,r,h=>by
  simp only [takeAt] at h
  obtain ⟨e1,e2⟩:=takeAt_spec h
  simp only [List.drop_succ_cons,List.length_cons]
  exact ⟨e1,by omega⟩

theorem putAt_spec:∀ {l:List Sc} {o:Nat} {vs r:List Sc},putAt l o vs=some r→r=l.take o++vs++l.drop (o+vs.length)∧o+vs.length≤l.length
 | [],0,[],r,h=>by simp [putAt] at h; simp [h]
 | _::_,0,[],r,h=>by simp [putAt] at h; simp [h]
 | [],0,v::vs,r,h=>by simp [putAt] at h
 | [],o+1,vs,r,h=>by cases vs<;>simp [putAt] at h
 | c::cs,0,v::vs,r,h=>by
  simp only [putAt] at h
  split at h
  ·rename_i r' hr
   obtain ⟨e1,e2⟩:=putAt_spec hr
   simp only [Option.some.injEq] at h
   subst h
   simp at e1 e2
   simp [e1]
   omega
  ·cases h
 | c::cs,o+1,vs,r,h=>by
  have h':∃ r',putAt cs o vs=some r'∧r=c::r':=by
   cases vs<;>(simp only [putAt] at h; split at h)<;>first | (rename_i r' hr; exact ⟨r',hr,by simpa using h.symm⟩) | cases h
  obtain ⟨r',hr,rfl⟩:=h'
  obtain ⟨e1,e2⟩:=putAt_spec hr
  refine ⟨?_,by simp; omega⟩
  have:o+1+vs.length=(o+vs.length)+1:=by omega
  simp [this,e1]

theorem nth_eq:∀ (m:Mem) (b:Nat) (x:Blk),nth m b=some x↔m[b]?=some (some x)
 | [],b,x=>by simp [nth]
 | y::m,0,x=>by simp [nth]
 | y::m,b+1,x=>by simp [nth,nth_eq m b x]

theorem nth_lt {m:Mem} {b:Nat} {x:Blk} (h:nth m b=some x):b<m.length:=by
 rw [nth_eq] at h
 exact (List.getElem?_eq_some_iff.1 h).1

theorem setB_eq:∀ (m:Mem) (b:Nat) (x:Option Blk),setB m b x=m.set b x
 | [],b,x=>by simp [setB]
 | y::m,0,x=>by simp [setB]
 | y::m,b+1,x=>by simp [setB,setB_eq m b x]

theorem snoc_eq:∀ (m:Mem) (x:Option Blk),snoc m x=(m.length,m++[x])
 | [],x=>by simp [snoc]
 | y::m,x=>by simp [snoc,snoc_eq m x]

@[simp] theorem length_setB (m:Mem) (b:Nat) (x:Option Blk):(setB m b x).length=m.length:=by simp [setB_eq]

theorem nth_setB_same {m:Mem} {b:Nat} {x y:Blk} (h:nth m b=some y):nth (setB m b (some x)) b=some x:=by
 rw [nth_eq,setB_eq]
 have:=nth_lt h
 simp [this]

theorem nth_setB_ne {m:Mem} {a b:Nat} {x:Option Blk} (h:b≠a):nth (setB m b x) a=nth m a:=by
 cases ha:nth m a with
 | some y=>rw [nth_eq] at ha ⊢; rw [setB_eq,List.getElem?_set_ne h]; exact ha
 | none=>
  cases hb:nth (setB m b x) a with
  | none=>rfl
  | some y=>
   rw [nth_eq,setB_eq,List.getElem?_set_ne h,← nth_eq] at hb
   rw [ha] at hb; cases hb

theorem nth_append_lt {m:Mem} {b:Nat} {x:List (Option Blk)} (h:b<m.length):nth (m++x) b=nth m b:=by
 cases ha:nth m b with
 | some y=>rw [nth_eq] at ha ⊢; rw [List.getElem?_append_left h]; exact ha
 | none=>
  cases hb:nth (m++x) b with
  | none=>rfl
  | some y=>
   rw [nth_eq,List.getElem?_append_left h,← nth_eq] at hb
   rw [ha] at hb; cases hb

theorem nth_append_last {m:Mem} {x:Option Blk}:nth (m++[x]) m.length=x:=by
 cases x with
 | some y=>rw [nth_eq]; simp
 | none=>
  cases hb:nth (m++[none]) m.length with
  | none=>rfl
  | some y=>rw [nth_eq] at hb; simp at hb

theorem blt_lt {a b:Nat}:Nat.blt a b=true↔a<b:=by simp [Nat.blt]; omega

theorem SP.closed_mono {n n':Nat} (h:n≤n'):∀ {p:SP},p.closed n=true→p.closed n'=true
 | .loc b o,hp=>by simp only [SP.closed,blt_lt] at *; omega
 | .ext a,_=>rfl

theorem Sc.closed_mono {n n':Nat} (h:n≤n'):∀ {s:Sc},s.closed n=true→s.closed n'=true
 | .int ..,_ | .bool ..,_ | .str ..,_ | .ptr none,_ | .slice none _ _,_=>rfl
 | .raw _,hs=>hs
 | .ptr (some _),hs | .slice (some _) _ _,hs=>SP.closed_mono h hs
 | .buf b _,hs=>by simp only [Sc.closed,blt_lt] at *; omega

theorem closedL_iff {n:Nat}:∀ {l:List Sc},closedL n l=true↔∀ s∈l,s.closed n=true
 | []=>by simp [closedL]
 | s::l=>by
  simp only [closedL,List.mem_cons,forall_eq_or_imp]
  rw [← closedL_iff (l:=l)]
  cases s.closed n<;>simp

theorem closedL_mono {n n':Nat} (h:n≤n') {l:List Sc} (hl:closedL n l=true):closedL n' l=true:=
 closedL_iff.2 fun s hs=>Sc.closed_mono h (closedL_iff.1 hl s hs)

theorem closedT_iff {n:Nat}:∀ {l:List TC},closedT n l=true↔∀ s∈l,s.closed n=true
 | []=>by simp [closedT]
 | s::l=>by
  simp only [closedT,List.mem_cons,forall_eq_or_imp]
  rw [← closedT_iff (l:=l)]
  cases s.closed n<;>simp

theorem TC.closed_mono {n n':Nat} (h:n≤n'):∀ {v:TC},v.closed n=true→v.closed n'=true
 | .one _,hv=>Sc.closed_mono h hv
 | .agg _,hv=>closedL_mono h hv

theorem TV.closed_mono {n n':Nat} (h:n≤n'):∀ {v:TV},v.closed n=true→v.closed n'=true
 | .one _,hv=>Sc.closed_mono h hv
 | .agg _,hv=>closedL_mono h hv
 | .tup _,hv=>closedT_iff.2 fun s hs=>TC.closed_mono h (closedT_iff.1 hv s hs)

def Agree (n:Nat) (c c':Con):Prop:=∀ b,b<n→c'.ι b=c.ι b∧c'.κ b=c.κ b

theorem SP.conc_agree {n:Nat} {c c':Con} (h:Agree n c c'):∀ {p:SP},p.closed n=true→p.conc c'=p.conc c
 | .loc b o,hp=>by simp only [SP.closed,blt_lt] at hp; simp [SP.conc,(h b hp).1]
 | .ext a,_=>rfl

theorem Sc.conc_agree {n:Nat} {c c':Con} (h:Agree n c c'):∀ {s:Sc},s.closed n=true→s.conc c'=s.conc c
 | .int ..,_ | .bool ..,_ | .str ..,_ | .raw ..,_ | .ptr none,_ | .slice none _ _,_=>rfl
 | .ptr (some _),hs | .slice (some _) _ _,hs=>by
  have:=SP.conc_agree h hs
  simp [Sc.conc,this]
 | .buf b _,hs=>by simp only [Sc.closed,blt_lt] at hs; simp [Sc.conc,(h b hs).1,(h b hs).2]

theorem concL_agree {n:Nat} {c c':Con} (h:Agree n c c') {l:List Sc} (hl:closedL n l=true):l.map (Sc.conc c')=l.map (Sc.conc c):=
 List.map_congr_left fun s hs=>Sc.conc_agree h (closedL_iff.1 hl s hs)

theorem TC.conc_agree {n:Nat} {c c':Con} (h:Agree n c c'):∀ {v:TC},v.closed n=true→v.conc c'=v.conc c
 | .one _,hv=>Sc.conc_agree h hv
 | .agg _,hv=>by simp [TC.conc,concL_agree h hv]

theorem TV.conc_agree {n:Nat} {c c':Con} (h:Agree n c c'):∀ {v:TV},v.closed n=true→v.conc c'=v.conc c
 | .one _,hv=>Sc.conc_agree h hv
 | .agg _,hv=>by simp [TV.conc,concL_agree h hv]
 | .tup l,hv=>by
  have:l.map (TC.conc c')=l.map (TC.conc c):=List.map_congr_left fun s hs=>TC.conc_agree h (closedT_iff.1 hv s hs)
  simp [TV.conc,this]

theorem TC.tv_conc (c:Con) (v:TC):v.tv.conc c=v.conc c:=by cases v<;>rfl
theorem TC.tv_closed (n:Nat) (v:TC):v.tv.closed n=v.closed n:=by cases v<;>rfl
theorem TV.tc_conc {c:Con} {v:TV} {u:TC} (h:v.tc=some u):u.conc c=v.conc c:=by
 cases v<;>simp [TV.tc] at h<;>subst h<;>rfl
theorem TV.tc_closed {n:Nat} {v:TV} {u:TC} (h:v.tc=some u):u.closed n=v.closed n:=by
 cases v<;>simp [TV.tc] at h<;>subst h<;>rfl

theorem Sc.conc_one {n:Nat} (c:Con) {s:Sc} (h:s.closed n=true):one1 (s.conc c)=true:=by
 cases s<;>first | rfl | exact h

theorem cells_one1 {v:Value} (h:one1 v=true):v.cells=#[v]:=by
 cases v<;>simp_all [one1,Value.cells]

theorem TV.cells_conc {c:Con} {n:Nat} {v:TV} {l:List Sc} (h:v.cells=some l) (hv:v.closed n=true):(v.conc c).cells=(l.map (Sc.conc c)).toArray:=by
 cases v with
 | one s=>
  simp [TV.cells] at h; subst h
  simp only [TV.conc,cells_one1 (Sc.conc_one c (n:=n) (s:=s) hv)]
  rfl
 | agg l'=>simp [TV.cells] at h; subst h; simp [TV.conc,Value.cells]
 | tup l'=>simp [TV.cells] at h

theorem TV.cells_closed {n:Nat} {v:TV} {l:List Sc} (h:v.cells=some l) (hv:v.closed n=true):closedL n l=true:=by
 cases v with
 | one s=>simp [TV.cells] at h; subst h; exact closedL_iff.2 (by simpa [TV.closed] using hv)
 | agg l'=>simp [TV.cells] at h; subst h; exact hv
 | tup l'=>simp [TV.cells] at h

theorem cst1_conc (c:Con) (v:Value):(cst1 v).conc c=v:=by
 unfold cst1; split<;>simp [Sc.conc]

theorem cst1_closed (n:Nat) {v:Value} (h:one1 v=true):(cst1 v).closed n=true:=by
 unfold cst1; split<;>simp_all [Sc.closed]

theorem cstL_spec (c:Con) (n:Nat):∀ {vs:List Value} {l:List Sc},cstL vs=some l→l.map (Sc.conc c)=vs∧closedL n l=true
 | [],l,h=>by simp [cstL] at h; subst h; exact ⟨rfl,rfl⟩
 | v::vs,l,h=>by
  simp only [cstL] at h
  split at h
  ·rename_i hv
   split at h
   ·rename_i l' hl
    simp only [Option.some.injEq] at h
    subst h
    obtain ⟨h1,h2⟩:=cstL_spec c n hl
    exact ⟨by simp [h1,cst1_conc],by simp [closedL,cst1_closed n hv,h2]⟩
   ·cases h
  ·cases h

theorem cst_spec (c:Con) (n:Nat) {v:Value} {u:TV} (h:cst v=some u):u.conc c=v∧u.closed n=true:=by
 unfold cst at h
 split at h
 ·rename_i cs
  split at h
  ·rename_i l hl
   simp only [Option.some.injEq] at h
   subst h
   obtain ⟨h1,h2⟩:=cstL_spec c n hl
   exact ⟨by simp [TV.conc,h1],h2⟩
  ·cases h
 ·cases h
 ·rename_i h1 h2
  simp only [Option.some.injEq] at h
  subst h
  refine ⟨cst1_conc c v,cst1_closed n ?_⟩
  cases v with
  | agg cs=>exact absurd rfl (h1 cs.toList)
  | tuple vs=>exact absurd rfl (h2 vs)
  | _=>rfl

theorem opv_sound {c:Con} {n:Nat} {e:Env} {a:Act} (h:Fits c n e a) {x:Operand} {v:TV} (hv:opv e x=some v) :
  a.eval x=v.conc c∧v.closed n=true:=by
 cases x with
 | tmp t=>exact h.get t v hv
 | const u=>
  simp only [opv] at hv
  obtain ⟨h1,h2⟩:=cst_spec c n hv
  exact ⟨h1.symm,h2⟩
 | global g=>
  simp only [opv,Option.some.injEq] at hv
  subst hv
  exact ⟨rfl,rfl⟩
 | func f=>
  simp only [opv,Option.some.injEq] at hv
  subst hv
  exact ⟨rfl,rfl⟩

theorem getOps_sound {c:Con} {n:Nat} {e:Env} {a:Act} (h:Fits c n e a):∀ {xs:List Operand} {vs:List TV},getOps e xs=some vs →
  xs.map a.eval=vs.map (TV.conc c)∧∀ v∈vs,v.closed n=true
 | [],vs,hv=>by simp [getOps] at hv; subst hv; simp
 | x::xs,vs,hv=>by
  simp only [getOps] at hv
  split at hv
  ·rename_i v hx
   split at hv
   ·rename_i us hxs
    simp only [Option.some.injEq] at hv
    subst hv
    obtain ⟨e1,c1⟩:=opv_sound h hx
    obtain ⟨e2,c2⟩:=getOps_sound h hxs
    exact ⟨by simp [e1,e2],by simp [c1]; exact c2⟩
   ·cases hv
  ·cases hv

theorem opvP_sound {c:Con} {n:Nat} {e:Env} {a:Act} (h:Fits c n e a):∀ {xs:List (Nat×Operand)} {vs:List (Nat×TV)},opvP e xs=some vs →
  xs.map (fun p=>(p.1,a.eval p.2))=vs.map (fun p=>(p.1,p.2.conc c))∧∀ v∈vs,v.2.closed n=true
 | [],vs,hv=>by simp [opvP] at hv; subst hv; simp
 | (i,x)::xs,vs,hv=>by
  simp only [opvP] at hv
  split at hv
  ·rename_i v hx
   split at hv
   ·rename_i us hxs
    simp only [Option.some.injEq] at hv
    subst hv
    obtain ⟨e1,c1⟩:=opv_sound h hx
    obtain ⟨e2,c2⟩:=opvP_sound h hxs
    exact ⟨by simp [e1,e2],by simp [c1]; exact fun a b hab=>c2 (a,b) hab⟩
   ·cases hv
  ·cases hv

theorem Fits.put {c:Con} {n:Nat} {e:Env} {a:Act} (h:Fits c n e a) {d:Option Tmp} (hd:∀ t,d=some t→t<a.tmps.size) {v:TV} (hv:v.closed n=true) :
  Fits c n (putE d v e) (a.put d (v.conc c)):=by
 cases d with
 | none=>exact h
 | some t=>
  refine ⟨fun s u hu=>?_,h.defers⟩
  simp only [putE,Ev.get] at hu
  split at hu
  ·rename_i hb
   have:t=s:=Nat.eq_of_beq_eq_true hb
   subst this
   simp only [Option.some.injEq] at hu
   subst hu
   simp [Act.put,Array.getD,hd t rfl,hv]
  ·rename_i hb
   have hne:t≠s:=fun e=>by subst e; simp at hb
   obtain ⟨e1,e2⟩:=h.get s u hu
   refine ⟨?_,e2⟩
   rw [← e1]
   simp [Act.put,Array.getElem?_setIfInBounds_ne hne]

theorem Fits.agree {c c':Con} {n n':Nat} {e:Env} {a:Act} (h:Fits c n e a) (hc:Agree n c c') (hn:n≤n'):Fits c' n' e a:=
 ⟨fun t v hv=>⟨by rw [(h.get t v hv).1,TV.conc_agree hc (h.get t v hv).2],TV.closed_mono hn (h.get t v hv).2⟩,h.defers⟩

end Go.Ev

namespace Go.Ev

def isAggB (P:Program) (t:TypeId):Bool:=
 match P.underlying t with
 | some (.struct _) | some (.array _ _)=>true
 | _=>false

def KRow (P:Program) (t:TypeId):TK→Prop
 | .struct fs=>∃ f:Array Field,P.underlying t=some (.struct f)∧f.toList.map (fun x=>(x.offset,P.cellsOf x.type,isAggB P x.type))=fs ∧
   f.toList.all (fun x=>(P.info? x.type).isSome&&(P.underlying x.type).isSome&&P.cellsOf x.type != 0)=true
 | .array n es ag=>∃ e,P.underlying t=some (.array n e)∧(P.info? e).isSome=true∧(P.underlying e).isSome=true∧P.cellsOf e=es∧isAggB P e=ag
 | .slice e es eb ag=>P.underlying t=some (.slice e)∧(P.info? e).isSome=true∧(P.underlying e).isSome=true∧P.cellsOf e=es∧P.bytesOf e=eb∧isAggB P e=ag
 | .int k=>P.underlying t=some (.int k)
 | .bool=>P.underlying t=some .bool
 | .string=>P.underlying t=some .string
 | .other=>True

def EqRow (P:Program) (t:TypeId) (z:List Sc):Prop:=
 P.eqGuardType P.depth t=false∧∀ (xs ys:List Sc) (b:Bool) (c:Con) (w:World),eqCells z xs ys=some b →
  (Op.equal t (.agg (xs.map (Sc.conc c)).toArray) (.agg (ys.map (Sc.conc c)).toArray)).run P w=.ok b w

structure RowOk (P:Program) (t:TypeId) (i:TyI):Prop where
 info:(P.info? t).map (fun f=>(f.size,f.zero.map Value.cells))=some (i.size,some (i.zero.map (Sc.conc Con0)).toArray)
 zc:closedL 0 i.zero=true
 und:(P.underlying t).isSome=true
 agg:isAggB P t=i.agg
 k:KRow P t i.k
 eq:i.eqok=true→EqRow P t i.zero

def TysOk (P:Program) (T:Tys):Prop:=∀ t i,lk T t=some i→RowOk P t i

theorem lk_mem:∀ {T:Tys} {t:Nat} {i:TyI},lk T t=some i→(t,i)∈T
 | [],t,i,h=>by simp [lk] at h
 | (u,j)::T,t,i,h=>by
  simp only [lk] at h
  split at h
  ·rename_i hb
   have:u=t:=Nat.eq_of_beq_eq_true hb
   subst this
   simp only [Option.some.injEq] at h
   subst h; simp
  ·exact List.mem_cons_of_mem _ (lk_mem h)

theorem tysOk_of {P:Program} {T:Tys} (h:∀ r∈T,RowOk P r.1 r.2):TysOk P T:=fun t i hl=>h (t,i) (lk_mem hl)

section
variable {P:Program}

theorem r_underlying {t:TypeId} {d:TypeDesc} (h:P.underlying t=some d) (w:World):(underlying t).run P w=.ok d w:=by
 simp [underlying,h]

theorem r_typeInfo {t:TypeId} {i:TypeInfo} (h:P.info? t=some i) (w:World):(typeInfo t).run P w=.ok i w:=by
 simp [typeInfo,h]

theorem r_sizeOf {t:TypeId} (h:(P.info? t).isSome=true) (w:World):(sizeOf t).run P w=.ok (P.cellsOf t) w:=by
 obtain ⟨i,hi⟩:=Option.isSome_iff_exists.1 h
 simp [sizeOf,r_typeInfo hi,Program.cellsOf,hi]

theorem r_isAgg {t:TypeId} (h:(P.underlying t).isSome=true) (w:World):(isAgg t).run P w=.ok (isAggB P t) w:=by
 obtain ⟨d,hd⟩:=Option.isSome_iff_exists.1 h
 simp only [isAgg,isAggB,Sem.run_bind,r_underlying hd,Result.andThen_ok,hd]
 cases d<;>simp

theorem RowOk.size {t:TypeId} {i:TyI} (h:RowOk P t i) (w:World):(sizeOf t).run P w=.ok i.size w:=by
 have:=h.info
 cases hi:P.info? t with
 | none=>simp [hi] at this
 | some f=>
  rw [hi] at this
  simp only [Option.map_some,Option.some.injEq,Prod.mk.injEq] at this
  rw [r_sizeOf (by simp [hi])]
  simp [Program.cellsOf,hi,this.1]

theorem RowOk.isAgg {t:TypeId} {i:TyI} (h:RowOk P t i) (w:World):(Go.isAgg t).run P w=.ok i.agg w:=by
 rw [r_isAgg h.und,h.agg]

theorem RowOk.zero {t:TypeId} {i:TyI} (h:RowOk P t i) (c:Con) (w:World):∃ z,(zeroValue t).run P w=.ok z w∧z.cells=(i.zero.map (Sc.conc c)).toArray:=by
 have:=h.info
 cases hi:P.info? t with
 | none=>simp [hi] at this
 | some f=>
  rw [hi] at this
  simp only [Option.map_some,Option.some.injEq,Prod.mk.injEq] at this
  obtain ⟨_,h2⟩:=this
  cases hz:f.zero with
  | none=>simp [hz] at h2
  | some z=>
   rw [hz] at h2
   simp only [Option.map_some,Option.some.injEq] at h2
   refine ⟨z,by simp [zeroValue,r_typeInfo hi,hz],?_⟩
   rw [h2,concL_agree (n:=0) (c:=Con0) (c':=c) (fun b hb=>absurd hb (Nat.not_lt_zero b)) h.zc]

theorem take_extract (l:List Value) (o n:Nat):l.toArray.extract o (o+n)=((l.drop o).take n).toArray:=by
 apply Array.ext'
 simp [List.extract]

theorem part_sound {t:TypeId} {ag:Bool} {size:Nat} (hu:(P.underlying t).isSome=true) (hi:(P.info? t).isSome=true) (hs:P.cellsOf t=size) (ha:isAggB P t=ag)
  {l:List Sc} {o:Nat} {v:TV} (h:partV ag size l o=some v) (c:Con) (w:World):(part t (l.map (Sc.conc c)).toArray o).run P w=.ok (v.conc c) w:=by
 unfold partV at h
 cases ag with
 | true=>
  simp only at h
  split at h
  ·rename_i r hr
   obtain ⟨rfl,hlen⟩:=takeAt_spec hr
   simp only [Option.some.injEq] at h
   subst h
   simp only [part,Sem.run_bind,r_isAgg hu,ha,Result.andThen_ok,if_true,r_sizeOf hi,Sem.run_pure,hs]
   rw [take_extract]
   simp [TV.conc,List.map_take,List.map_drop]
  ·cases h
 | false=>
  simp only at h
  split at h
  ·rename_i s hr
   obtain ⟨e,hlen⟩:=takeAt_spec hr
   simp only [Option.some.injEq] at h
   subst h
   have hlt:o<l.length:=by omega
   have hs':l[o]=s:=by
    have:(l.drop o).take 1=[l[o]]:=by
     rw [List.take_one,List.head?_drop,List.getElem?_eq_getElem hlt]; rfl
    rw [this] at e
    simpa using e.symm
   simp only [part,Sem.run_bind,r_isAgg hu,ha,Result.andThen_ok]
   simp [hlt,hs',TV.conc]
  ·cases h

theorem partV_closed {ag:Bool} {size:Nat} {l:List Sc} {o n:Nat} {v:TV} (h:partV ag size l o=some v) (hc:closedL n l=true):v.closed n=true:=by
 unfold partV at h
 have sub:∀ {k r},takeAt l o k=some r→closedL n r=true:=fun {k r} hr=>by
  obtain ⟨rfl,_⟩:=takeAt_spec hr
  exact closedL_iff.2 fun s hs=>closedL_iff.1 hc s (List.mem_of_mem_drop (List.mem_of_mem_take hs))
 cases ag with
 | true=>
  simp only at h
  split at h
  ·rename_i r hr
   simp only [Option.some.injEq] at h
   subst h
   exact sub hr
  ·cases h
 | false=>
  simp only at h
  split at h
  ·rename_i s hr
   simp only [Option.some.injEq] at h
   subst h
   have:=sub hr
   simpa [closedL_iff,TV.closed] using this
  ·cases h

theorem nthF_spec:∀ {fs:List (Nat×Nat×Bool)} {j:Nat} {x},nthF fs j=some x→fs[j]?=some x
 | [],_,_,h=>by simp [nthF] at h
 | _::_,0,_,h=>by simpa [nthF] using h
 | _::fs,j+1,_,h=>by simp only [nthF] at h; simpa using nthF_spec h

theorem nthC_spec:∀ {fs:List TC} {j:Nat} {x},nthC fs j=some x→fs[j]?=some x
 | [],_,_,h=>by simp [nthC] at h
 | _::_,0,_,h=>by simpa [nthC] using h
 | _::fs,j+1,_,h=>by simp only [nthC] at h; simpa using nthC_spec h

theorem KRow.field {t:TypeId} {fs:List (Nat×Nat×Bool)} (h:KRow P t (.struct fs)) {j off size:Nat} {ag:Bool} (hj:nthF fs j=some (off,size,ag)) :
  ∃ (f:Array Field) (x:Field),P.underlying t=some (.struct f)∧f[j]?=some x∧x.offset=off∧P.cellsOf x.type=size∧isAggB P x.type=ag ∧
   (P.info? x.type).isSome=true∧(P.underlying x.type).isSome=true∧P.cellsOf x.type≠0:=by
 obtain ⟨f,h1,rfl,h3⟩:=h
 have hj:=nthF_spec hj
 rw [List.getElem?_map] at hj
 simp only [Array.getElem?_toList,Option.map_eq_some_iff,Prod.mk.injEq] at hj
 obtain ⟨x,hx,e1,e2,e3⟩:=hj
 have hm:x∈f.toList:=by
  have:=Array.mem_of_getElem? hx
  simpa using this
 have:=List.all_eq_true.1 h3 x hm
 simp only [Bool.and_eq_true,bne_iff_ne,ne_eq] at this
 exact ⟨f,x,h1,hx,e1,e2,e3,this.1.1,this.1.2,this.2⟩

theorem addr_add {c:Con} {p:SP} {n:Nat}:(p.conc c).add n=(p.add n).conc c:=by
 cases p with
 | loc b o=>simp only [SP.conc,SP.add,Addr.add]; split<;>simp_all
 | ext a=>rfl

theorem SP.add_closed {p:SP} {n k:Nat}:(p.add k).closed n=p.closed n:=by cases p<;>rfl

theorem wr_conc (c:Con) (k:IntKind) (n:Int):(wr k n).conc c=.int k (k.wrap n):=by
 cases k<;>simp [wr,Sc.conc,IntKind.wrap,IntKind.bits,IntKind.signed]

theorem wr_closed (k:IntKind) (n:Int) (m:Nat):(wr k n).closed m=true:=by cases k<;>rfl

theorem kEq_iff {k k':IntKind}:kEq k k'=true↔k=k':=by cases k<;>cases k'<;>simp [kEq]

theorem bopI_sound {op:BinOp} {k k':IntKind} {a b:Int} {s:Sc} (h:bopI op k a k' b=some s) (t:TypeId) (c:Con) (w:World) :
  (binOp op t (.int k a) (.int k' b)).run P w=.ok (s.conc c) w∧∀ n,s.closed n=true:=by
 unfold bopI at h
 cases op<;>simp only at h
 case shl=>
  split at h
  ·cases h
  ·rename_i hb
   simp only [decide_eq_false_iff_not] at hb
   simp only [Option.some.injEq] at h
   subst h
   exact ⟨by simp [binOp,Op.shift,hb,wr_conc],wr_closed _ _⟩
 case shr=>
  split at h
  ·cases h
  ·rename_i hb
   simp only [decide_eq_false_iff_not] at hb
   simp only [Option.some.injEq] at h
   subst h
   exact ⟨by simp [binOp,Op.shift,hb,Sc.conc],fun _=>rfl⟩
 all_goals
  split at h
  ·cases h
  ·rename_i hk
   have hk:=kEq_iff.1 hk
   subst hk
   first
    | (simp only [Option.some.injEq] at h; subst h; refine ⟨?_,wr_closed _ _⟩; rw [wr_conc]; simp [binOp,Op.intArith]; done)
    | (simp only [Option.some.injEq] at h; subst h; exact ⟨by simp [binOp,Op.intCmp,Sc.conc],fun _=>rfl⟩)
    | (
      split at h
      ·cases h
      ·rename_i hb
       simp only [decide_eq_false_iff_not] at hb
       simp only [Option.some.injEq] at h; subst h
       exact ⟨by simp [binOp,Op.intDiv,hb,Sc.conc],fun _=>rfl⟩)
    | (
      simp only [bits,Option.some.injEq] at h
      subst h
      exact ⟨by simp [binOp,Op.intBits,Sc.conc],fun _=>rfl⟩)
    | (simp [bits] at h)

end

end Go.Ev

namespace Go.Ev
section
variable {P:Program} {n:Nat}

theorem splice_fold (vs:List Value):∀ (o k:Nat) (cs:Array Value),o+k+vs.length≤cs.size →
  (vs.zipIdx k).foldl (fun (cs:Array Value) (p:Value×Nat)=>cs.setIfInBounds (o+p.2) p.1) cs=(cs.toList.take (o+k)++vs++cs.toList.drop (o+k+vs.length)).toArray:=by
 induction vs with
 | nil=>intro o k cs _; apply Array.ext'; simp
 | cons v vs ih=>
  intro o k cs h
  simp only [List.zipIdx_cons,List.foldl_cons]
  simp only [List.length_cons] at h
  rw [ih o (k+1) (cs.setIfInBounds (o+k) v) (by simp; omega)]
  apply Array.ext'
  simp only [Array.toList_setIfInBounds,List.length_cons]
  have h1:o+(k+1)=o+k+1:=by omega
  rw [h1]
  have hlt:o+k<cs.toList.length:=by simp; omega
  have e1:(cs.toList.set (o+k) v).take (o+k+1)=cs.toList.take (o+k)++[v]:=by
   rw [List.take_set,List.take_succ_eq_append_getElem hlt,List.set_append_right _ _ (by simp; omega)]
   simp
   rw [Nat.min_eq_left (by simpa using Nat.le_of_lt hlt)]
   simp
  have e2:(cs.toList.set (o+k) v).drop (o+k+1+vs.length)=cs.toList.drop (o+k+(vs.length+1)):=by
   rw [List.drop_set_of_lt (by omega)]
   congr 1
   omega
  rw [e1,e2]
  simp

theorem fold_put {c:Con} {l vs r:List Sc} {o:Nat} (h:putAt l o vs=some r) :
  ((vs.map (Sc.conc c)).toArray.zipIdx.foldl (fun (cs:Array Value) (p:Value×Nat)=>cs.setIfInBounds (o+p.2) p.1) (l.map (Sc.conc c)).toArray)=(r.map (Sc.conc c)).toArray:=by
 obtain ⟨e,hlen⟩:=putAt_spec h
 have:=splice_fold (vs.map (Sc.conc c)) o 0 (l.map (Sc.conc c)).toArray (by simpa using hlen)
 rw [← Array.foldl_toList]
 simp only [Array.toList_zipIdx]
 rw [this,e]
 apply Array.ext'
 simp [List.map_take,List.map_drop]

theorem putAt_closed {n:Nat} {l vs r:List Sc} {o:Nat} (h:putAt l o vs=some r) (hl:closedL n l=true) (hv:closedL n vs=true):closedL n r=true:=by
 obtain ⟨rfl,_⟩:=putAt_spec h
 refine closedL_iff.2 fun s hs=>?_
 simp only [List.mem_append] at hs
 rcases hs with (hs | hs) | hs
 ·exact closedL_iff.1 hl s (List.mem_of_mem_take hs)
 ·exact closedL_iff.1 hv s hs
 ·exact closedL_iff.1 hl s (List.mem_of_mem_drop hs)

theorem fillS_sound (fs:List (Nat×Nat×Bool)) (place:Nat→Option (Nat×Nat)) (hp:∀ j off size ag,nthF fs j=some (off,size,ag)→place j=some (off,size)) (c:Con) :
  ∀ (ps:List (Nat×TV)) (l r:List Sc),(∀ p∈ps,p.2.closed n=true)→fillS fs l ps=some r→Instr.fill place (l.map (Sc.conc c)).toArray (ps.map fun p=>(p.1,p.2.conc c))=some (r.map (Sc.conc c)).toArray
 | [],l,r,_,h=>by simp [fillS] at h; subst h; simp [Instr.fill]
 | (i,v)::ps,l,r,hcl,h=>by
  simp only [fillS] at h
  split at h
  ·rename_i off size ag vs hn hv
   split at h
   ·rename_i hs
    split at h
    ·rename_i l' hput
     have hs:=Nat.eq_of_beq_eq_true hs
     obtain ⟨_,hlen⟩:=putAt_spec hput
     have hc:=TV.cells_conc (c:=c) hv (hcl (i,v) (by simp))
     simp only [List.map_cons,Instr.fill,hp _ _ _ _ hn,hc]
     have h1:¬ ((decide ((List.map (Sc.conc c) vs).toArray.size≠size)||decide (off+(List.map (Sc.conc c) vs).toArray.size > (List.map (Sc.conc c) l).toArray.size))=true):=by
      simp; omega
     rw [if_neg h1]
     rw [fold_put hput]
     exact fillS_sound fs place hp c ps l' r (fun p hp=>hcl p (by simp [hp])) h
    ·cases h
   ·cases h
  ·cases h

theorem fillA_sound (es:Nat) (c:Con) :
  ∀ (ps:List (Nat×TV)) (l r:List Sc),(∀ p∈ps,p.2.closed n=true)→fillA es l ps=some r→Instr.fill (fun i=>some (i*es,es)) (l.map (Sc.conc c)).toArray (ps.map fun p=>(p.1,p.2.conc c))=some (r.map (Sc.conc c)).toArray
 | [],l,r,_,h=>by simp [fillA] at h; subst h; simp [Instr.fill]
 | (i,v)::ps,l,r,hcl,h=>by
  simp only [fillA] at h
  split at h
  ·rename_i vs hv
   split at h
   ·rename_i hs
    split at h
    ·rename_i l' hput
     have hs:=Nat.eq_of_beq_eq_true hs
     obtain ⟨_,hlen⟩:=putAt_spec hput
     have hc:=TV.cells_conc (c:=c) hv (hcl (i,v) (by simp))
     simp only [List.map_cons,Instr.fill,hc]
     have h1:¬ ((decide ((List.map (Sc.conc c) vs).toArray.size≠es)||decide (i*es+(List.map (Sc.conc c) vs).toArray.size > (List.map (Sc.conc c) l).toArray.size))=true):=by
      simp; omega
     rw [if_neg h1,fold_put hput]
     exact fillA_sound es c ps l' r (fun p hp=>hcl p (by simp [hp])) h
    ·cases h
   ·cases h
  ·cases h

theorem fillS_closed (fs:List (Nat×Nat×Bool)):∀ (ps:List (Nat×TV)) (l r:List Sc),fillS fs l ps=some r→closedL n l=true→(∀ p∈ps,p.2.closed n=true)→closedL n r=true
 | [],l,r,h,hl,_=>by simp [fillS] at h; subst h; exact hl
 | (i,v)::ps,l,r,h,hl,hps=>by
  simp only [fillS] at h
  split at h
  ·rename_i off size ag vs hn hv
   split at h
   ·split at h
    ·rename_i l' hput
     exact fillS_closed fs ps l' r h (putAt_closed hput hl (TV.cells_closed hv (hps (i,v) (by simp)))) (fun p hp=>hps p (by simp [hp]))
    ·cases h
   ·cases h
  ·cases h

theorem fillA_closed (es:Nat):∀ (ps:List (Nat×TV)) (l r:List Sc),fillA es l ps=some r→closedL n l=true→(∀ p∈ps,p.2.closed n=true)→closedL n r=true
 | [],l,r,h,hl,_=>by simp [fillA] at h; subst h; exact hl
 | (i,v)::ps,l,r,h,hl,hps=>by
  simp only [fillA] at h
  split at h
  ·rename_i vs hv
   split at h
   ·split at h
    ·rename_i l' hput
     exact fillA_closed es ps l' r h (putAt_closed hput hl (TV.cells_closed hv (hps (i,v) (by simp)))) (fun p hp=>hps p (by simp [hp]))
    ·cases h
   ·cases h
  ·cases h

end
end Go.Ev

namespace Go.Ev
section
variable {P:Program} {T:Tys} {c:Con} {n:Nat} {e:Env} {a:Act}

def Yields (P:Program) (c:Con) (n:Nat) (a:Act) (o:Oper) (v:TV):Prop:=
 (∀ w,(execOp a.eval o).run P w=.ok (.value (v.conc c)) w)∧v.closed n=true

theorem run_value {s:Sem Value} {v:Value} {w:World} (h:s.run P w=.ok v w):(do pure (.value (← s)):Sem Next).run P w=.ok (.value v) w:=by
 simp [h]

theorem cell_part {s:Sc} {l:List Sc} {o:Nat} (h:takeAt l o 1=some [s]):l[o]?=some s:=by
 obtain ⟨e,hlen⟩:=takeAt_spec h
 have hlt:o<l.length:=by omega
 have:(l.drop o).take 1=[l[o]]:=by
  rw [List.take_one,List.head?_drop,List.getElem?_eq_getElem hlt]; rfl
 rw [this] at e
 rw [List.getElem?_eq_getElem hlt]
 simpa using e.symm

theorem bop_sound (hT:TysOk P T) {op:BinOp} {t:TypeId} {x y v:TV} (h:bop T op t x y=some v) (X Y:Operand) (w:World) :
  (do eqGuard op t X Y (x.conc c) (y.conc c); binOp op t (x.conc c) (y.conc c):Sem Value).run P w=.ok (v.conc c) w∧∀ n,v.closed n=true:=by
 unfold bop at h
 split at h
 ·rename_i k a k' b
  split at h
  ·rename_i s hs
   simp only [Option.some.injEq] at h
   subst h
   obtain ⟨h1,h2⟩:=bopI_sound hs t c w
   refine ⟨?_,h2⟩
   have hg:(eqGuard op t X Y (.int k a) (.int k' b)).run P w=.ok () w:=by
    unfold eqGuard
    cases op<;>simp
   simp only [TV.conc,Sc.conc,Sem.run_bind,hg,Result.andThen_ok]
   exact h1
  ·cases h
 ·rename_i a b
  split at h
  ·rename_i hk
   simp only [Option.some.injEq] at h
   subst h
   have hu:P.underlying t=some .bool:=(hT _ _ hk).k
   refine ⟨?_,fun _=>rfl⟩
   have hg:(eqGuard .eql t X Y (.bool a) (.bool b)).run P w=.ok () w:=by simp [eqGuard]
   have hb:binOp .eql t (.bool a) (.bool b)=(do pure (.bool (← Op.equal t (.bool a) (.bool b)))):=rfl
   simp only [TV.conc,Sc.conc,Sem.run_bind,hg,Result.andThen_ok,hb,run_equal_bool w t a b hu,Sem.run_pure]
  ·rename_i hk
   simp only [Option.some.injEq] at h
   subst h
   have hu:P.underlying t=some .bool:=(hT _ _ hk).k
   refine ⟨?_,fun _=>rfl⟩
   have hg:(eqGuard .neq t X Y (.bool a) (.bool b)).run P w=.ok () w:=by simp [eqGuard]
   have hb:binOp .neq t (.bool a) (.bool b)=(do pure (.bool (!(← Op.equal t (.bool a) (.bool b))))):=rfl
   simp only [TV.conc,Sc.conc,Sem.run_bind,hg,Result.andThen_ok,hb,run_equal_bool w t a b hu,Sem.run_pure]
  ·cases h
 ·rename_i xs ys
  have guardOk:∀ {i:TyI},lk T t=some i→i.eqok=true→∀ op,(eqGuard op t X Y (.agg (xs.map (Sc.conc c)).toArray) (.agg (ys.map (Sc.conc c)).toArray)).run P w=.ok () w:=by
   intro i hi hq op
   have:=((hT _ _ hi).eq hq).1
   unfold eqGuard
   cases op<;>simp [this]
  split at h
  ·rename_i hk
   split at h
   ·rename_i b hb
    simp only [Option.some.injEq] at h
    subst h
    have he:=((hT _ _ hk).eq rfl).2 xs ys b c w hb
    refine ⟨?_,fun _=>rfl⟩
    have hb':binOp .eql t (.agg (xs.map (Sc.conc c)).toArray) (.agg (ys.map (Sc.conc c)).toArray)=(do pure (.bool (← Op.equal t (.agg (xs.map (Sc.conc c)).toArray) (.agg (ys.map (Sc.conc c)).toArray)))):=rfl
    simp only [TV.conc,Sem.run_bind,guardOk hk rfl,Result.andThen_ok,hb',he,Sem.run_pure,Sc.conc]
   ·cases h
  ·rename_i hk
   split at h
   ·rename_i b hb
    simp only [Option.some.injEq] at h
    subst h
    have he:=((hT _ _ hk).eq rfl).2 xs ys b c w hb
    refine ⟨?_,fun _=>rfl⟩
    have hb':binOp .neq t (.agg (xs.map (Sc.conc c)).toArray) (.agg (ys.map (Sc.conc c)).toArray)=(do pure (.bool (!(← Op.equal t (.agg (xs.map (Sc.conc c)).toArray) (.agg (ys.map (Sc.conc c)).toArray))))):=rfl
    simp only [TV.conc,Sem.run_bind,guardOk hk rfl,Result.andThen_ok,hb',he,Sem.run_pure,Sc.conc]
   ·cases h
  ·cases h
 ·cases h

theorem uop_sound {op:UnOp} {x v:TV} (h:uop op x=some v) (w:World):(Op.unary op (x.conc c)).run P w=.ok (v.conc c) w∧∀ n,v.closed n=true:=by
 unfold uop at h
 split at h
 ·simp only [Option.some.injEq] at h
  subst h
  exact ⟨by simp [TV.conc,Sc.conc,Op.unary],fun _=>rfl⟩
 ·simp only [Option.some.injEq] at h
  subst h
  exact ⟨by simp only [TV.conc,wr_conc]; simp [Sc.conc,Op.unary,Op.intArith],fun _=>wr_closed _ _ _⟩
 ·split at h
  ·rename_i r hr
   simp only [bits,Option.some.injEq] at hr h
   subst h; subst hr
   exact ⟨by simp [TV.conc,Sc.conc,Op.unary,Op.intBits],fun _=>rfl⟩
  ·cases h
 ·cases h

theorem bound_sound (hf:Fits c n e a) {x:Option Operand} {d:Nat} {l:Int} (h:bound e x d=some l) :
  (x=none∧l=d)∨∃ k,x.map a.eval=some (.int k l):=by
 unfold bound at h
 split at h
 ·left; simpa using h.symm
 ·rename_i y
  right
  split at h
  ·rename_i k m hy
   simp only [Option.some.injEq] at h
   subst h
   obtain ⟨he,_⟩:=opv_sound hf hy
   exact ⟨k,by simp [he,TV.conc,Sc.conc]⟩
  ·cases h

theorem run_sliceBounds (isSlice:Bool) {len cap:Nat} (hf:Fits c n e a) {lo hi:Option Operand} {l h:Int} (hl:bound e lo 0=some l) (hh:bound e hi len=some h)
  (hb:0≤h∧h≤(cap:Int)∧0≤l∧l≤h) (w:World) :
  (Instr.sliceBounds isSlice len cap (lo.map a.eval) (hi.map a.eval) none).run P w=.ok (l.toNat,h.toNat,cap) w:=by
 have h2:l≤(h.toNat:Int):=by omega
 unfold Instr.sliceBounds
 rcases bound_sound hf hh with ⟨rfl,rfl⟩ | ⟨k,hk⟩
 ·rcases bound_sound hf hl with ⟨rfl,rfl⟩ | ⟨k',hk'⟩
  ·simp
  ·simp only [Option.map_none,hk']
   simp [Instr.sliceBound,asIntOf,hb.2.2.1,hb.2.2.2]
 ·rcases bound_sound hf hl with ⟨rfl,rfl⟩ | ⟨k',hk'⟩
  ·simp only [Option.map_none,hk]
   simp [Instr.sliceBound,asIntOf,hb.1,hb.2.1]
  ·simp only [hk,hk']
   have h3:(h.toNat:Int)=h:=by omega
   have e1:(Instr.sliceBound (.int k h) cap (if isSlice=true then BoundsCode.sliceAcap else BoundsCode.sliceAlen)).run P w=.ok h.toNat w:=by
    simp [Instr.sliceBound,asIntOf,hb.1,hb.2.1]
   have e2:(Instr.sliceBound (.int k' l) h.toNat BoundsCode.sliceB).run P w=.ok l.toNat w:=by
    simp only [Instr.sliceBound,asIntOf,Sem.run_bind,Sem.run_pure,Result.andThen_ok,Sem.run_ite]
    rw [if_pos ⟨hb.2.2.1,h2⟩]
   simp only [Sem.run_bind,Sem.run_pure,Result.andThen_ok,e1]
   simp [e2]

theorem pval_sound (hT:TysOk P T) (hf:Fits c n e a) {o:Oper} {v:TV} (h:pval T o.op e=some v):Yields P c n a o v:=by
 obtain ⟨dst,op,ty,pos,after,guard⟩:=o
 simp only at h
 cases op with
 | move x=>
  obtain ⟨h1,h2⟩:=opv_sound hf h
  exact ⟨fun w=>by simp [execOp,h1],h2⟩
 | assign x=>
  obtain ⟨h1,h2⟩:=opv_sound hf h
  exact ⟨fun w=>by simp [execOp,h1],h2⟩
 | pick cx x y=>
  simp only [pval] at h
  split at h
  ·rename_i hc
   obtain ⟨h0,_⟩:=opv_sound hf hc
   obtain ⟨h1,h2⟩:=opv_sound hf h
   exact ⟨fun w=>by simp [execOp,h0,h1,TV.conc,Sc.conc,asBool],h2⟩
  ·rename_i hc
   obtain ⟨h0,_⟩:=opv_sound hf hc
   obtain ⟨h1,h2⟩:=opv_sound hf h
   exact ⟨fun w=>by simp [execOp,h0,h1,TV.conc,Sc.conc,asBool],h2⟩
  ·cases h
 | nilCheck x=>
  simp only [pval] at h
  split at h
  ·rename_i p hx
   obtain ⟨h1,h2⟩:=opv_sound hf hx; simp only [TV.conc,Sc.conc] at h1
   simp only [Option.some.injEq] at h
   subst h
   exact ⟨fun w=>by simp [execOp,h1,TV.conc,Sc.conc],h2⟩
  ·cases h
 | binOp bo t x y t'=>
  simp only [pval] at h
  split at h
  ·rename_i u v hx hy
   obtain ⟨h1,_⟩:=opv_sound hf hx
   obtain ⟨h2,_⟩:=opv_sound hf hy
   have:=fun w=>bop_sound (c:=c) hT h x y w
   refine ⟨fun w=>?_,(this default).2 n⟩
   simp only [execOp,h1,h2]
   exact run_value (this w).1
  ·cases h
 | unOp uo t x=>
  simp only [pval] at h
  split at h
  ·rename_i u hx
   obtain ⟨h1,_⟩:=opv_sound hf hx
   have:=fun w=>uop_sound (P:=P) (c:=c) h w
   refine ⟨fun w=>?_,(this default).2 n⟩
   simp only [execOp,h1]
   exact run_value (this w).1
  ·cases h
 | convert s d x=>
  simp only [pval] at h
  split at h
  ·rename_i k' _ k hs hd hx
   obtain ⟨h1,_⟩:=opv_sound hf hx; simp only [TV.conc,Sc.conc] at h1
   simp only [Option.some.injEq] at h
   subst h
   have hu:P.underlying d=some (.int k'):=(hT _ _ hd).k
   obtain ⟨ds,hds⟩:=Option.isSome_iff_exists.1 (hT _ _ hs).und
   refine ⟨fun w=>?_,by simp [TV.closed,wr_closed]⟩
   simp only [execOp,h1]
   apply run_value
   simp only [TV.conc,wr_conc]
   simp only [convert,Sem.run_bind,r_underlying hds,r_underlying hu,Result.andThen_ok]
   cases ds<;>simp [Conv.intToInt]
  ·cases h
 | extract x i=>
  simp only [pval] at h
  split at h
  ·rename_i l hx
   split at h
   ·rename_i u hu
    obtain ⟨h1,h2⟩:=opv_sound hf hx; simp only [TV.conc] at h1
    simp only [Option.some.injEq] at h
    subst h
    have:=nthC_spec hu
    refine ⟨fun w=>?_,?_⟩
    ·simp only [execOp,h1]
     apply run_value
     simp [Instr.extract,this,TC.tv_conc]
    ·rw [TC.tv_closed]
     exact closedT_iff.1 h2 u (List.mem_of_getElem? this)
   ·cases h
  ·cases h
 | fieldAddr s x f=>
  simp only [pval] at h
  split at h
  ·rename_i fs p hs hx
   split at h
   ·rename_i off size ag hj
    obtain ⟨h1,h2⟩:=opv_sound hf hx; simp only [TV.conc] at h1
    simp only [Option.some.injEq] at h
    subst h
    obtain ⟨F,y,hu,hy,rfl,hsz,hag,hi,hui,hne⟩:=(hT _ _ hs).k.field hj
    refine ⟨fun w=>?_,?_⟩
    ·simp only [execOp,h1]
     apply run_value
     simp [Instr.fieldAt,r_underlying hu,hy,Instr.sureAddr,TV.conc,Sc.conc,fieldPlace,r_sizeOf hi,hne,addr_add]
    ·simpa [TV.closed,Sc.closed,SP.add_closed] using h2
   ·cases h
  ·cases h
 | field s x f=>
  simp only [pval] at h
  split at h
  ·rename_i fs l hs hx
   split at h
   ·rename_i off size ag hj
    obtain ⟨h1,h2⟩:=opv_sound hf hx; simp only [TV.conc] at h1
    obtain ⟨F,y,hu,hy,rfl,hsz,hag,hi,hui,hne⟩:=(hT _ _ hs).k.field hj
    refine ⟨fun w=>?_,partV_closed h h2⟩
    simp only [execOp,h1]
    apply run_value
    simp [Instr.field,r_underlying hu,hy,asAgg,part_sound hui hi hsz hag h]
   ·cases h
  ·cases h
 | indexAddr t x i=>
  simp only [pval] at h
  split at h
  ·rename_i len es ag p j k ht hx hi
   split at h
   ·rename_i hb
    have hb:=of_decide_eq_true hb
    obtain ⟨h1,h2⟩:=opv_sound hf hx; simp only [TV.conc] at h1
    obtain ⟨h3,_⟩:=opv_sound hf hi; simp only [TV.conc,Sc.conc] at h3
    simp only [Option.some.injEq] at h
    subst h
    obtain ⟨el,hu,hie,hue,hse,hae⟩:=(hT _ _ ht).k
    refine ⟨fun w=>?_,?_⟩
    ·simp only [execOp,h1,h3]
     apply run_value
     simp [Instr.indexAt,asIntOf,TV.conc,Sc.conc,r_underlying hu,Instr.sureAddr,hb,r_sizeOf hie,hse,addr_add]
    ·simpa [TV.closed,Sc.closed,SP.add_closed] using h2
   ·cases h
  ·rename_i el es eb ag p len cap j k ht hx hi
   split at h
   ·rename_i hb
    have hb:=of_decide_eq_true hb
    obtain ⟨h1,h2⟩:=opv_sound hf hx; simp only [TV.conc] at h1
    obtain ⟨h3,_⟩:=opv_sound hf hi; simp only [TV.conc,Sc.conc] at h3
    simp only [Option.some.injEq] at h
    subst h
    obtain ⟨hu,hie,hue,hse,_,hae⟩:=(hT _ _ ht).k
    refine ⟨fun w=>?_,?_⟩
    ·simp only [execOp,h1,h3]
     apply run_value
     simp [Instr.indexAt,asIntOf,TV.conc,Sc.conc,r_underlying hu,Instr.sureAddr,hb,r_sizeOf hie,hse,addr_add]
    ·simpa [TV.closed,Sc.closed,SP.add_closed] using h2
   ·cases h
  ·rename_i el es eb ag b len j k ht hx hi
   split at h
   ·rename_i hb
    have hb:=of_decide_eq_true hb
    obtain ⟨h1,h2⟩:=opv_sound hf hx; simp only [TV.conc] at h1
    obtain ⟨h3,_⟩:=opv_sound hf hi; simp only [TV.conc,Sc.conc] at h3
    simp only [Option.some.injEq] at h
    subst h
    obtain ⟨hu,hie,hue,hse,_,hae⟩:=(hT _ _ ht).k
    refine ⟨fun w=>?_,?_⟩
    ·simp only [execOp,h1,h3]
     apply run_value
     simp [Instr.indexAt,asIntOf,TV.conc,Sc.conc,r_underlying hu,Instr.sureAddr,hb,r_sizeOf hie,hse,SP.conc,Addr.add]
     intro h0; rw [h0]
    ·simpa [TV.closed,Sc.closed,SP.closed] using h2
   ·cases h
  ·cases h
 | index t x i=>
  simp only [pval] at h
  split at h
  ·rename_i len es ag l j k ht hx hi
   split at h
   ·rename_i hb
    have hb:=of_decide_eq_true hb
    obtain ⟨h1,h2⟩:=opv_sound hf hx; simp only [TV.conc] at h1
    obtain ⟨h3,_⟩:=opv_sound hf hi; simp only [TV.conc,Sc.conc] at h3
    obtain ⟨el,hu,hie,hue,hse,hae⟩:=(hT _ _ ht).k
    refine ⟨fun w=>?_,partV_closed h h2⟩
    simp only [execOp,h1,h3]
    apply run_value
    simp [Instr.index,asIntOf,r_underlying hu,hb,r_sizeOf hie,hse,part_sound hue hie hse hae h]
   ·cases h
  ·cases h
 | build t ps=>
  simp only [pval] at h
  split at h
  ·rename_i z _ fs vs ht hp
   split at h
   ·rename_i l hl
    simp only [Option.some.injEq] at h
    subst h
    obtain ⟨hps,hcl⟩:=opvP_sound hf hp
    have hrow:=hT _ _ ht
    refine ⟨fun w=>?_,fillS_closed fs vs z l hl (closedL_mono (Nat.zero_le n) hrow.zc) hcl⟩
    obtain ⟨zv,hz1,hz2⟩:=hrow.zero c w
    obtain ⟨F,hu,hF,hall⟩:=hrow.k
    have hplace:∀ (ws:World) (L:List Field),L.all (fun x=>(P.info? x.type).isSome&&(P.underlying x.type).isSome&&P.cellsOf x.type != 0)=true →
      (L.mapM (fun f=>do pure (f.offset,← sizeOf f.type):Field→Sem (Nat×Nat))).run P ws=.ok (L.map fun f=>(f.offset,P.cellsOf f.type)) ws:=by
     intro ws L
     induction L with
     | nil=>intro _; simp
     | cons f L ih=>
      intro hL
      simp only [List.all_cons,Bool.and_eq_true] at hL
      rw [List.mapM_cons]
      simp only [Sem.run_bind,r_sizeOf hL.1.1.1,Result.andThen_ok,Sem.run_pure]
      rw [ih hL.2]
      simp
    have hpl:(F.mapM (fun f=>do pure (f.offset,← sizeOf f.type):Field→Sem (Nat×Nat))).run P w=.ok (F.map fun f=>(f.offset,P.cellsOf f.type)) w:=by
     have h0:=hplace w F.toList hall
     rw [Array.mapM_eq_mapM_toList]
     simp only [Sem.run_map,h0,Result.andThen_ok]
     congr 1
     apply Array.ext'
     simp
    have hfill:=fillS_sound fs (fun i=>(F.map fun f=>(f.offset,P.cellsOf f.type))[i]?) (by
     intro j off size ag hj
     have hj:=nthF_spec hj
     rw [← hF,List.getElem?_map] at hj
     simp only [Array.getElem?_toList,Option.map_eq_some_iff,Prod.mk.injEq] at hj
     obtain ⟨x,hx,e1,e2,_⟩:=hj
     simp [hx,e1,e2]) c vs z l hcl hl
    have hps':(ps.map fun p=>(p.1,a.eval p.2)).toList=vs.map fun p=>(p.1,p.2.conc c):=by
     rw [Array.toList_map,← hps]
    simp only [execOp]
    apply run_value
    simp only [Instr.build,Sem.run_bind,hz1,Result.andThen_ok,r_underlying hu,hpl,hz2]
    rw [show (ps.map fun x=>match x with | (i,x)=>(i,a.eval x))=ps.map fun p=>(p.1,a.eval p.2) from rfl,hps',hfill]
    simp [TV.conc]
   ·cases h
  ·rename_i z _ len es ag vs ht hp
   split at h
   ·rename_i l hl
    simp only [Option.some.injEq] at h
    subst h
    obtain ⟨hps,hcl⟩:=opvP_sound hf hp
    have hrow:=hT _ _ ht
    refine ⟨fun w=>?_,fillA_closed es vs z l hl (closedL_mono (Nat.zero_le n) hrow.zc) hcl⟩
    obtain ⟨zv,hz1,hz2⟩:=hrow.zero c w
    obtain ⟨el,hu,hie,hue,hse,hae⟩:=hrow.k
    have hfill:=fillA_sound es c vs z l hcl hl
    have hps':(ps.map fun p=>(p.1,a.eval p.2)).toList=vs.map fun p=>(p.1,p.2.conc c):=by
     rw [Array.toList_map,← hps]
    simp only [execOp]
    apply run_value
    simp only [Instr.build,Sem.run_bind,hz1,Result.andThen_ok,r_underlying hu,r_sizeOf hie,hse,hz2]
    rw [show (ps.map fun x=>match x with | (i,x)=>(i,a.eval x))=ps.map fun p=>(p.1,a.eval p.2) from rfl,hps',hfill]
    simp [TV.conc]
   ·cases h
  ·cases h
 | sliceToArrayPointer t x=>
  simp only [pval] at h
  split at h
  ·rename_i len es ag p l cap ht hx
   split at h
   ·rename_i hb
    have hb:=Nat.le_of_ble_eq_true hb
    obtain ⟨h1,h2⟩:=opv_sound hf hx; simp only [TV.conc] at h1
    simp only [Option.some.injEq] at h
    subst h
    obtain ⟨el,hu,hie,hue,hse,hae⟩:=(hT _ _ ht).k
    refine ⟨fun w=>?_,?_⟩
    ·simp only [execOp,h1]
     apply run_value
     simp [Instr.arrayAt,r_underlying hu,TV.conc,Sc.conc,Nat.not_lt.2 hb]
    ·cases p with
     | none=>simp [TV.closed,Sc.closed]
     | some _=>simpa [TV.closed,Sc.closed] using h2
   ·cases h
  ·cases h
 | slice t x lo hi mx=>
  cases mx with
  | some m=>simp [pval] at h
  | none=>
   simp only [pval] at h
   split at h
   ·rename_i len es ag p ht hx
    split at h
    ·rename_i l hh hl hhi
     split at h
     ·rename_i hb
      have hb:=of_decide_eq_true hb
      obtain ⟨h1,h2⟩:=opv_sound hf hx; simp only [TV.conc] at h1
      obtain ⟨el,hu,hie,hue,hse,hae⟩:=(hT _ _ ht).k
      have hsb:=fun w=>run_sliceBounds (P:=P) false hf hl hhi hb w
      split at h
      ·rename_i hq
       have hq:=Nat.eq_of_beq_eq_true hq
       simp only [Option.some.injEq] at h
       subst h
       refine ⟨fun w=>?_,by simpa [TV.closed,Sc.closed] using h2⟩
       simp only [execOp,h1]
       apply run_value
       simp [Instr.sliceAt,r_underlying hu,Instr.sureAddr,hsb,r_sizeOf hie,hse,hq,TV.conc,Sc.conc]
      ·rename_i hq
       have hq:¬ len=l.toNat:=fun e=>by rw [← e] at hq; simp at hq
       simp only [Option.some.injEq] at h
       subst h
       refine ⟨fun w=>?_,by simpa [TV.closed,Sc.closed,SP.add_closed] using h2⟩
       simp only [execOp,h1]
       apply run_value
       simp [Instr.sliceAt,r_underlying hu,Instr.sureAddr,hsb,r_sizeOf hie,hse,hq,addr_add,TV.conc,Sc.conc]
     ·cases h
    ·cases h
   ·rename_i el es eb ag p len cap ht hx
    split at h
    ·rename_i l hh hl hhi
     split at h
     ·rename_i hb
      have hb:=of_decide_eq_true hb
      obtain ⟨h1,h2⟩:=opv_sound hf hx; simp only [TV.conc] at h1
      obtain ⟨hu,hie,hue,hse,_,hae⟩:=(hT _ _ ht).k
      have hsb:=fun w=>run_sliceBounds (P:=P) true hf hl hhi hb.2 w
      split at h
      ·rename_i hq
       have hq:=Nat.eq_of_beq_eq_true hq
       simp only [Option.some.injEq] at h
       subst h
       refine ⟨fun w=>?_,by simpa [TV.closed,Sc.closed] using h2⟩
       simp only [execOp,h1]
       apply run_value
       simp [Instr.sliceAt,Instr.slice,r_underlying hu,hsb,r_sizeOf hie,hse,hq,TV.conc,Sc.conc]
      ·rename_i hq
       have hq:¬ cap=l.toNat:=fun e=>by rw [← e] at hq; simp at hq
       simp only [Option.some.injEq] at h
       subst h
       refine ⟨fun w=>?_,by simpa [TV.closed,Sc.closed,SP.add_closed] using h2⟩
       simp only [execOp,h1]
       apply run_value
       simp [Instr.sliceAt,Instr.slice,r_underlying hu,hsb,r_sizeOf hie,hse,hq,addr_add,TV.conc,Sc.conc]
     ·cases h
    ·cases h
   ·cases h
 | call cl=>
  obtain ⟨callee,xs,ts⟩:=cl
  cases callee with
  | builtin b=>
   cases b
   case len=>
    simp only [pval] at h
    split at h
    ·rename_i t ts' hts
     have hts0:ts[0]?=some t:=by rw [← Array.getElem?_toList,hts]; rfl
     have hargs:∀ {u:TV},getOps e xs.toList=some [u]→(xs.map a.eval)=#[u.conc c]:=fun {u} hg=>by
      have:=(getOps_sound hf hg).1
      apply Array.ext'
      simpa using this
     split at h
     ·rename_i el es eb ag p len cap ht hg
      simp only [Option.some.injEq] at h
      subst h
      obtain ⟨hu,_⟩:=(hT _ _ ht).k
      have ha:=hargs hg
      refine ⟨fun w=>?_,rfl⟩
      simp [execOp,resolve,invoke,builtin,ha,Builtin.len_,hts0,r_underlying hu,TV.conc,Sc.conc,goInt]
     ·rename_i el es eb ag p len ht hg
      simp only [Option.some.injEq] at h
      subst h
      obtain ⟨hu,_⟩:=(hT _ _ ht).k
      have ha:=hargs hg
      refine ⟨fun w=>?_,rfl⟩
      simp [execOp,resolve,invoke,builtin,ha,Builtin.len_,hts0,r_underlying hu,TV.conc,Sc.conc,goInt]
     ·cases h
    ·cases h
   all_goals simp [pval] at h
  | _=>simp [pval] at h
 | _=>simp [pval] at h

end
end Go.Ev

namespace Go.Ev
section
variable {P:Program} {W0:World} {c:Con} {m:Mem} {w:World}

theorem Since.refl (c:Con) (m:Mem) (w:World):Since c m w c m w:=
 ⟨Nat.le_refl _,fun _ _=>⟨rfl,rfl⟩,Nat.le_refl _,fun _ _ _=>rfl,fun b x h1 h2=>absurd (nth_lt h1) (by omega),fun b x h1 _=>⟨x,h1⟩⟩

theorem Since.trans {c0 c1 c2:Con} {m0 m1 m2:Mem} {w0 w1 w2:World} (h:Since c0 m0 w0 c1 m1 w1) (k:Since c1 m1 w1 c2 m2 w2):Since c0 m0 w0 c2 m2 w2:=by
 have back:∀ b x,nth m1 b=some x→w0.heap.size≤c1.ι b∨∃ d y,nth m0 d=some y∧c1.ι b=c0.ι d:=fun b x hx=>by
  by_cases hlt:b<m0.length
  ·obtain ⟨y,hy⟩:=h.live b x hx hlt
   exact .inr ⟨b,y,hy,(h.agree b hlt).1⟩
  ·exact h.fresh b x hx (by omega)
 refine ⟨Nat.le_trans h.le k.le,fun b hb=>?_,Nat.le_trans h.size k.size,fun r hr hno=>?_,fun b x hx h1=>?_,fun b x hx hb=>?_⟩
 ·have h1:=h.agree b hb
  have h2:=k.agree b (by have:=h.le; omega)
  exact ⟨h2.1.trans h1.1,h2.2.trans h1.2⟩
 ·rw [k.keep r (by have:=h.size; omega) (fun b x hx=>?_),h.keep r hr hno]
  intro e
  rcases back b x hx with h' | ⟨d,y,hy,h'⟩
  ·omega
  ·exact hno d y hy (by rw [← h']; exact e)
 ·by_cases hlt:b<m1.length
  ·obtain ⟨y,hy⟩:=k.live b x hx hlt
   rw [(k.agree b hlt).1]
   exact h.fresh b y hy h1
  ·rcases k.fresh b x hx (by omega) with h' | ⟨d,y,hy,h'⟩
   ·left; have:=h.size; omega
   ·rw [h']; exact back d y hy
 ·have hlt:b<m1.length:=Nat.lt_of_lt_of_le hb h.le
  obtain ⟨y,hy⟩:=k.live b x hx hlt
  exact h.live b y hy hb

theorem RelM.drew (h:RelM W0 c m w):RelM W0 c m { w with drawn:=w.drawn+1 }:=
 ⟨h.blk,h.cl,h.inj,h.ge,h.lt,h.ext,h.size,h.os,h.tape,h.output⟩

theorem Since.drew (c:Con) (m:Mem) (w:World):Since c m w c m { w with drawn:=w.drawn+1 }:=
 ⟨Nat.le_refl _,fun _ _=>⟨rfl,rfl⟩,Nat.le_refl _,fun _ _ _=>rfl,fun b x h1 h2=>absurd (nth_lt h1) (by omega),fun b x h1 _=>⟨x,h1⟩⟩

theorem cell_of_block {cells:Array Value} {el:TypeId} {fz:Nat×Nat} {b o:Nat} (h:w.heap[b]?=some (.cells cells el fz)):w.cell? ⟨b,o,none⟩=cells[o]?:=by
 simp [World.cell?,h]

theorem RelM.cell (h:RelM W0 c m w) {b o:Nat} {x:Blk} (hx:nth m b=some x) {s:Sc} (hs:x.cells[o]?=some s):w.cell? ⟨c.ι b,o,none⟩=some (s.conc c):=by
 obtain ⟨junk,hj,_⟩:=h.blk b x hx
 rw [cell_of_block hj]
 obtain ⟨hlt,rfl⟩:=List.getElem?_eq_some_iff.1 hs
 simp [List.getElem?_append_left,hlt]

theorem RelM.extCell (h:RelM W0 c m w) {a:Addr} {v:Value} (hv:W0.cell? a=some v):w.cell? a=some v:=by
 have hlt:a.block<W0.heap.size:=by
  unfold World.cell? at hv
  split at hv
  ·rename_i heq
   exact (Array.getElem?_eq_some_iff.1 heq).1
  ·cases hv
 have:=h.ext a.block hlt
 simpa [World.cell?,this] using hv

theorem run_loadCellsFrom {p:Addr}:∀ (vs:List Value) (i:Nat) (acc:Array Value),(∀ j v,vs[j]?=some v→w.cell? (p.add (i+j))=some v) →
  (loadCellsFrom p i vs.length acc).run P w=.ok (acc++vs.toArray) w
 | [],i,acc,_=>by simp [loadCellsFrom]
 | v::vs,i,acc,h=>by
  have h0:=h 0 v (by simp)
  simp only [Nat.add_zero] at h0
  simp only [List.length_cons,loadCellsFrom,Sem.run_bind,run_load,h0,Result.andThen_ok]
  rw [run_loadCellsFrom vs (i+1) (acc.push v) (fun j u hu=>by
   have:=h (j+1) u (by simpa using hu)
   rwa [show i+(j+1)=i+1+j by omega] at this)]
  simp

theorem run_loadCells {p:Addr} {vs:List Value} (h:∀ j v,vs[j]?=some v→w.cell? (p.add j)=some v):(loadCells p vs.length).run P w=.ok vs.toArray w:=by
 have:=run_loadCellsFrom (P:=P) vs 0 #[] (fun j v hv=>by rw [Nat.zero_add]; exact h j v hv)
 simpa [loadCells] using this

theorem run_loadVar {t:TypeId} {i:TyI} (ht:RowOk P t i) (h:RelM W0 c m w) {b o:Nat} {x:Blk} (hx:nth m b=some x) {v:TV} (hv:partV i.agg i.size x.cells o=some v) :
  (loadVar t ⟨c.ι b,o,none⟩).run P w=.ok (v.conc c) w:=by
 unfold partV at hv
 simp only [loadVar,Sem.run_bind,ht.isAgg,Result.andThen_ok]
 cases hag:i.agg with
 | true=>
  rw [hag] at hv
  simp only at hv
  split at hv
  ·rename_i r hr
   simp only [Option.some.injEq] at hv
   subst hv
   obtain ⟨e,hlen⟩:=takeAt_spec hr
   have hrl:r.length=i.size:=by rw [e]; simp; omega
   have:=run_loadCells (P:=P) (w:=w) (p:=⟨c.ι b,o,none⟩) (vs:=r.map (Sc.conc c)) (fun j u hu=>by
    rw [List.getElem?_map] at hu
    simp only [Option.map_eq_some_iff] at hu
    obtain ⟨s,hs,rfl⟩:=hu
    have:x.cells[o+j]?=some s:=by
     rw [e] at hs
     rw [List.getElem?_take] at hs
     split at hs
     ·simpa using hs
     ·cases hs
    have ha:(Addr.mk (c.ι b) o none).add j=⟨c.ι b,o+j,none⟩:=by unfold Addr.add; split<;>simp_all
    rw [ha]
    exact h.cell hx this)
   simp only [if_true,Sem.run_bind,ht.size,Result.andThen_ok]
   rw [show i.size=(r.map (Sc.conc c)).length by simp [hrl],this]
   simp [TV.conc]
  ·cases hv
 | false=>
  rw [hag] at hv
  simp only at hv
  split at hv
  ·rename_i s hr
   simp only [Option.some.injEq] at hv
   subst hv
   have:=cell_part hr
   have hc:=h.cell hx this
   simp [hc,TV.conc]
  ·cases hv

theorem run_loadVar_ext {t:TypeId} {i:TyI} (ht:RowOk P t i) (h:RelM W0 c m w) {p:Addr} {v:TV} (hv:ExtRead W0 i.agg i.size p v) :
  (loadVar t p).run P w=.ok (v.conc c) w∧v.closed 0=true:=by
 unfold ExtRead at hv
 simp only [loadVar,Sem.run_bind,ht.isAgg,Result.andThen_ok]
 have ag0:Agree 0 Con0 c:=fun b hb=>absurd hb (Nat.not_lt_zero b)
 cases hag:i.agg with
 | true=>
  rw [hag] at hv
  obtain ⟨l,hl,hc,hcl,rfl⟩:=hv
  have:=run_loadCells (P:=P) (w:=w) (p:=p) (vs:=l.map (Sc.conc c)) (fun j u hu=>by
   rw [List.getElem?_map] at hu
   simp only [Option.map_eq_some_iff] at hu
   obtain ⟨s,hs,rfl⟩:=hu
   rw [Sc.conc_agree ag0 (closedL_iff.1 hcl s (List.mem_of_getElem? hs))]
   exact h.extCell (hc j s hs))
  simp only [if_true,Sem.run_bind,ht.size,Result.andThen_ok]
  rw [show i.size=(l.map (Sc.conc c)).length by simp [hl],this]
  exact ⟨by simp [TV.conc],hcl⟩
 | false=>
  rw [hag] at hv
  obtain ⟨s,hs,hcl,rfl⟩:=hv
  have:=h.extCell hs
  rw [← Sc.conc_agree ag0 hcl] at this
  exact ⟨by simp [this,TV.conc],hcl⟩

def Con.add (c:Con) (n r k:Nat):Con:=⟨fun b=>if b=n then r else c.ι b,fun b=>if b=n then k else c.κ b⟩

theorem Con.add_agree (c:Con) (n r k:Nat):Agree n c (c.add n r k):=fun b hb=>by
 have:b≠n:=by omega
 simp [Con.add,this]

theorem RelM.push (h:RelM W0 c m w) {cells:List Sc} {t:TypeId} (hcl:closedL m.length cells=true) :
  RelM W0 (c.add m.length w.heap.size 0) (m++[some ⟨cells,t,0,false⟩]) { w with heap:=w.heap.push (.cells (cells.map (Sc.conc c)).toArray t) } ∧
  Since c m w (c.add m.length w.heap.size 0) (m++[some ⟨cells,t,0,false⟩]) { w with heap:=w.heap.push (.cells (cells.map (Sc.conc c)).toArray t) }:=by
 have hag:=Con.add_agree c m.length w.heap.size 0
 have hι:∀ b,b<m.length→(c.add m.length w.heap.size 0).ι b=c.ι b:=fun b hb=>(hag b hb).1
 have hlast:(c.add m.length w.heap.size 0).ι m.length=w.heap.size:=by simp [Con.add]
 have hnth:∀ b x,nth (m++[some ⟨cells,t,0,false⟩]) b=some x→(b<m.length∧nth m b=some x)∨(b=m.length∧x=⟨cells,t,0,false⟩):=fun b x hx=>by
  have hlt:=nth_lt hx
  simp only [List.length_append,List.length_cons,List.length_nil] at hlt
  by_cases hb:b<m.length
  ·rw [nth_append_lt hb] at hx; exact .inl ⟨hb,hx⟩
  ·have:b=m.length:=by omega
   subst this
   rw [nth_append_last] at hx
   exact .inr ⟨rfl,by simpa using hx.symm⟩
 constructor
 ·refine ⟨fun b x hx=>?_,fun b x hx=>?_,fun b d x y hx hy e=>?_,fun b hb=>?_,fun b hb=>?_,fun r hr=>?_,?_,h.os,h.tape,h.output⟩
  ·rcases hnth b x hx with ⟨hb,hx⟩ | ⟨rfl,rfl⟩
   ·obtain ⟨junk,h1,h2,h3⟩:=h.blk b x hx
    refine ⟨junk,?_,h2,fun hg=>?_⟩
    ·rw [hι b hb,concL_agree hag (h.cl b x hx)]
     simp only [Array.getElem?_push]
     rw [if_neg (by have:=h.lt b hb; omega)]
     exact h1
    ·rw [(hag b hb).2]; exact h3 hg
   ·refine ⟨[],?_,fun _=>rfl,fun hg=>by cases hg⟩
    rw [hlast,concL_agree hag hcl]
    simp
  ·rcases hnth b x hx with ⟨hb,hx⟩ | ⟨rfl,rfl⟩
   ·exact closedL_mono (by simp) (h.cl b x hx)
   ·exact closedL_mono (by simp) hcl
  ·rcases hnth b x hx with ⟨hb,hx⟩ | ⟨rfl,rfl⟩<;>rcases hnth d y hy with ⟨hd,hy⟩ | ⟨rfl,rfl⟩
   ·rw [hι b hb,hι d hd] at e; exact h.inj b d x y hx hy e
   ·rw [hι b hb,hlast] at e; have:=h.lt b hb; omega
   ·rw [hι d hd,hlast] at e; have:=h.lt d hd; omega
   ·rfl
  ·simp only [List.length_append,List.length_cons,List.length_nil] at hb
   by_cases hlt:b<m.length
   ·rw [hι b hlt]; exact h.ge b hlt
   ·have:b=m.length:=by omega
    subst this; rw [hlast]; exact h.size
  ·simp only [List.length_append,List.length_cons,List.length_nil] at hb
   simp only [Array.size_push]
   by_cases hlt:b<m.length
   ·rw [hι b hlt]; have:=h.lt b hlt; omega
   ·have:b=m.length:=by omega
    subst this; rw [hlast]; omega
  ·simp only [Array.getElem?_push]
   rw [if_neg (by have:=h.size; omega)]
   exact h.ext r hr
  ·simp only [Array.size_push]; have:=h.size; omega
 ·refine ⟨by simp,fun b hb=>hag b hb,by simp,fun r hr _=>?_,fun b x hx h1=>?_,fun b x hx hb=>?_⟩
  ·simp only [Array.getElem?_push]
   rw [if_neg (by omega)]
  ·rcases hnth b x hx with ⟨hb,_⟩ | ⟨rfl,_⟩
   ·omega
   ·left; rw [hlast]; exact Nat.le_refl _
  ·rcases hnth b x hx with ⟨_,hx⟩ | ⟨rfl,_⟩
   ·exact ⟨x,hx⟩
   ·omega

theorem run_storeCells {b el:Nat} {fz:Nat×Nat}:∀ (vs:List Value) (i:Nat) (o:Nat) (w:World) (cells:Array Value),w.heap[b]?=some (.cells cells el (0,0))→o+i+vs.length≤cells.size →
  (∀ v∈vs,one1 v=true) →
  (storeCells ⟨b,o,none⟩ vs i).run P w=.ok () { w with heap:=w.heap.setIfInBounds b (.cells (cells.toList.take (o+i)++vs++cells.toList.drop (o+i+vs.length)).toArray el (0,0)) }
 | [],i,o,w,cells,hw,hl,_=>by
  simp only [storeCells,Sem.run_pure,List.append_nil,List.length_nil,Nat.add_zero,List.take_append_drop]
  congr 1
  have:w.heap.setIfInBounds b (.cells cells.toList.toArray el (0,0))=w.heap:=by
   apply Array.ext_getElem?
   intro j
   rw [Array.getElem?_setIfInBounds]
   split
   ·rename_i e; subst e
    obtain ⟨hb,_⟩:=Array.getElem?_eq_some_iff.1 hw
    simp [hb]
    exact (Array.getElem?_eq_some_iff.1 hw).2.symm
   ·rfl
  rw [this]
 | v::vs,i,o,w,cells,hw,hl,hone=>by
  simp only [List.length_cons] at hl
  have ha:(Addr.mk b o none).add i=⟨b,o+i,none⟩:=by unfold Addr.add; split<;>simp_all
  have hc:w.cell? ⟨b,o+i,none⟩=some (cells[o+i]'(by omega)):=by
   rw [cell_of_block hw]; simp
  have hf:w.frozen? ⟨b,o+i,none⟩=false:=by simp [World.frozen?,hw]
  have h1:v.oneCell'=true:=by
   have:=hone v (by simp)
   cases v<;>first | rfl | cases this
  simp only [storeCells,Sem.run_bind,ha]
  rw [run_store P w _ v _ h1]
  simp only [hc,hf,Result.andThen_ok,Bool.false_eq_true,if_false]
  have hb:b<w.heap.size:=(Array.getElem?_eq_some_iff.1 hw).1
  have hset:(w.setCell ⟨b,o+i,none⟩ v).heap[b]?=some (.cells (cells.setIfInBounds (o+i) v) el (0,0)):=by
   simp only [World.setCell,Array.getElem?_modify,if_true,hw]
   simp
  rw [run_storeCells (fz:=fz) vs (i+1) o (w.setCell ⟨b,o+i,none⟩ v) (cells.setIfInBounds (o+i) v) hset (by simp; omega) (fun u hu=>hone u (by simp [hu]))]
  congr 1
  simp only [World.setCell]
  congr 1
  apply Array.ext_getElem?
  intro j
  simp only [Array.getElem?_setIfInBounds,Array.getElem?_modify,Array.size_modify]
  split
  ·rename_i e
   subst e
   have hlt:o+i<cells.toList.length:=by simp; omega
   have e1:(cells.toList.set (o+i) v).take (o+(i+1))=cells.toList.take (o+i)++[v]:=by
    rw [show o+(i+1)=o+i+1 by omega,List.take_set,List.take_succ_eq_append_getElem hlt,List.set_append_right _ _ (by simp; omega)]
    simp
    rw [Nat.min_eq_left (by simpa using Nat.le_of_lt hlt)]
    simp
   have e2:(cells.toList.set (o+i) v).drop (o+(i+1)+vs.length)=cells.toList.drop (o+i+(vs.length+1)):=by
    rw [List.drop_set_of_lt (by omega)]
    congr 1
    omega
   simp only [Array.toList_setIfInBounds,e1,e2]
   simp
  ·rfl

theorem RelM.store (h:RelM W0 c m w) {b:Nat} {l cs vs:List Sc} {el:TypeId} {es:Nat} {gr:Bool} {o:Nat} (hx:nth m b=some ⟨l,el,es,gr⟩) (hp:putAt l o vs=some cs) (hv:closedL m.length vs=true) :
  ∃ w',(storeCells ⟨c.ι b,o,none⟩ (vs.map (Sc.conc c))).run P w=.ok () w'∧RelM W0 c (setB m b (some ⟨cs,el,es,gr⟩)) w'∧Since c m w c (setB m b (some ⟨cs,el,es,gr⟩)) w':=by
 obtain ⟨junk,h1,h2,h3⟩:=h.blk b _ hx
 obtain ⟨e,hlen⟩:=putAt_spec hp
 have hb:=nth_lt hx
 have hrun:=run_storeCells (P:=P) (fz:=(0,0)) (vs.map (Sc.conc c)) 0 o w _ h1 (by simp; omega) (by
  intro v hv'
  obtain ⟨s,hs,rfl⟩:=List.mem_map.1 hv'
  exact Sc.conc_one c (closedL_iff.1 hv s hs))
 refine ⟨_,hrun,?_,?_⟩
 ·have hcl:closedL m.length cs=true:=putAt_closed hp (h.cl b _ hx) hv
  have hnth:∀ d x,nth (setB m b (some ⟨cs,el,es,gr⟩)) d=some x→(d=b∧x=⟨cs,el,es,gr⟩)∨(d≠b∧nth m d=some x):=fun d x hd=>by
   by_cases hdb:d=b
   ·subst hdb
    rw [nth_setB_same hx] at hd
    exact .inl ⟨rfl,by simpa using hd.symm⟩
   ·rw [nth_setB_ne (Ne.symm hdb)] at hd; exact .inr ⟨hdb,hd⟩
  refine ⟨fun d x hd=>?_,fun d x hd=>?_,fun d d' x y hd hd' e'=>?_,fun d hd=>?_,fun d hd=>?_,fun r hr=>?_,by simpa using h.size,h.os,h.tape,h.output⟩
  ·rcases hnth d x hd with ⟨rfl,rfl⟩ | ⟨hne,hd⟩
   ·refine ⟨junk,?_,h2,fun hg=>?_⟩
    ·simp only [Array.getElem?_setIfInBounds,if_true]
     rw [if_pos (h.lt d hb)]
     congr 3
     simp only [e,Nat.add_zero]
     rw [List.take_append_of_le_length (by simp; omega),List.drop_append_of_le_length (by simp; omega)]
     simp [List.map_take,List.map_drop]
    ·rw [← h3 hg]
     simp only [e]
     simp
     omega
   ·obtain ⟨junk',k1,k2,k3⟩:=h.blk d x hd
    refine ⟨junk',?_,k2,k3⟩
    simp only [Array.getElem?_setIfInBounds]
    rw [if_neg (fun e'=>hne (h.inj d b x _ hd hx e'.symm))]
    exact k1
  ·rw [length_setB]
   rcases hnth d x hd with ⟨rfl,rfl⟩ | ⟨hne,hd⟩
   ·exact hcl
   ·exact h.cl d x hd
  ·have live:∀ d x,nth (setB m b (some ⟨cs,el,es,gr⟩)) d=some x→∃ y,nth m d=some y:=fun d x hd=>by
    rcases hnth d x hd with ⟨rfl,rfl⟩ | ⟨hne,hd⟩
    ·exact ⟨_,hx⟩
    ·exact ⟨_,hd⟩
   obtain ⟨x',hx'⟩:=live d x hd
   obtain ⟨y',hy'⟩:=live d' y hd'
   exact h.inj d d' x' y' hx' hy' e'
  ·rw [length_setB] at hd; exact h.ge d hd
  ·rw [length_setB] at hd; simpa using h.lt d hd
  ·simp only [Array.getElem?_setIfInBounds]
   rw [if_neg (by have:=h.ge b hb; omega)]
   exact h.ext r hr
 ·refine ⟨by simp,fun _ _=>⟨rfl,rfl⟩,by simp,fun r hr hno=>?_,fun d x hd h1=>absurd (nth_lt hd) (by rw [length_setB]; omega),fun d x hd hlt=>?_⟩
  ·simp only [Array.getElem?_setIfInBounds]
   rw [if_neg (hno b _ hx)]
  ·by_cases hdb:d=b
   ·subst hdb; exact ⟨_,hx⟩
   ·rw [nth_setB_ne (Ne.symm hdb)] at hd; exact ⟨_,hd⟩

end
end Go.Ev

namespace Go.Ev

def PrimOk (P:Program) (W0:World) (f:FuncId) (p:Prim):Prop:=
 ∀ (args:List TV) (K:TV→Prop),primC p args K→∃ v,K v∧(∀ K':TV→Prop,K' v→primC p args K')∧(∀ n,v.closed n=true) ∧
  ((∀ (c:Con) (w:World),(callFunc f (args.map (TV.conc c)).toArray).run P w=.ok (.value (v.conc c)) w) ∨
   ∀ m,CALL P W0 f args m fun v' m'=>v'=v∧m'=m)

structure CfgOk (G:Cfg):Prop where
 tys:TysOk G.P G.T
 prim:∀ f p,G.prim f=some p→PrimOk G.P G.W0 f p
 mixed:G.P.follows .mixedOrders=true

section
variable {G:Cfg} {c:Con} {m:Mem} {e:Env} {a:Act} {w:World}

theorem run_value' {P:Program} {s:Sem Value} {v:Value} {w w':World} (h:s.run P w=.ok v w'):(do pure (.value (← s)):Sem Next).run P w=.ok (.value v) w':=by
 simp [h]

def OpGoes (G:Cfg) (o:Oper) (c:Con) (m:Mem) (a:Act) (w:World) (K:TV→Mem→Prop):Prop:=
 ∀ (next:Act→World→Prop) (Q:Exit→Act→World→Prop),
  (∀ v m' c' w',RelM G.W0 c' m' w'→Since c m w c' m' w'→v.closed m'.length=true→K v m'→next (a.put o.dst (v.conc c')) w')→o.wp G.P a w next Q

theorem OpGoes.of_value {o:Oper} {K:TV→Mem→Prop} {v:TV} {m':Mem} {c':Con} {w':World} (h:(execOp a.eval o).run G.P w=.ok (.value (v.conc c')) w')
  (hr:RelM G.W0 c' m' w') (hs:Since c m w c' m' w') (hv:v.closed m'.length=true) (hK:K v m'):OpGoes G o c m a w K:=by
 intro next Q hn
 unfold Oper.wp
 rw [h]
 exact hn v m' c' w' hr hs hv hK

theorem OpGoes.of_skip {o:Oper} {K:TV→Mem→Prop} {m':Mem} {c':Con} {w':World} (h:(execOp a.eval o).run G.P w=.ok .skip w')
  (hr:RelM G.W0 c' m' w') (hs:Since c m w c' m' w') (hK:K (.tup []) m'):OpGoes G o c m a w K:=by
 intro next Q hn
 unfold Oper.wp
 rw [h]
 exact hn (.tup []) m' c' w' hr hs rfl hK

theorem OpGoes.of_call {o:Oper} {K:TV→Mem→Prop} {f:FuncId} {A:Array Value} {R:TV→Mem→Prop} (h:(execOp a.eval o).run G.P w=.ok (.enter f A) w)
  (hc:Calls G.P f A w fun e w'=>∃ v m' c',e=.returned (v.conc c')∧RelM G.W0 c' m' w'∧Since c m w c' m' w'∧v.closed m'.length=true∧R v m')
  (hK:∀ v m',R v m'→K v m'):OpGoes G o c m a w K:=by
 intro next Q hn
 unfold Oper.wp
 rw [h]
 refine hc.mono fun e w' hw=>?_
 obtain ⟨v,m',c',rfl,hr,hs,hv,hR⟩:=hw
 exact hn v m' c' w' hr hs hv (hK v m' hR)

theorem run_callOp {o:Oper} {f:FuncId} {xs:Array Operand} {ts:Array TypeId} (ho:o.op=.call { callee:=.value (.func f),args:=xs,argTypes:=ts }) :
  (execOp a.eval o).run G.P w=(callFunc f (xs.map a.eval)).run G.P w:=by
 simp [execOp,ho,resolve,Act.eval,Deferred.ofValue,invoke]

theorem acall_sound (hG:CfgOk G) (hr:RelM G.W0 c m w) (hf:Fits c m.length e a) {o:Oper} {f:FuncId} {xs:Array Operand} {ts:Array TypeId} (ho:o.op=.call { callee:=.value (.func f),args:=xs,argTypes:=ts })
  {vs:List TV} (hvs:getOps e xs.toList=some vs) {K:TV→Mem→Prop} (h:acall G f vs m K):OpGoes G o c m a w K:=by
 obtain ⟨hargs,hcl⟩:=getOps_sound hf hvs
 have hA:xs.map a.eval=(vs.map (TV.conc c)).toArray:=by
  apply Array.ext'
  simpa using hargs
 have hrun:=run_callOp (G:=G) (a:=a) (w:=w) ho
 rw [hA] at hrun
 unfold acall at h
 split at h
 ·rename_i p hp
  obtain ⟨v,hK,_,hc,h1 | h1⟩:=hG.prim f p hp vs _ h
  ·exact .of_value (by rw [hrun,h1]) hr (Since.refl c m w) (hc _) hK
  ·exact .of_call (by rw [hrun,(h1 m).1]) ((h1 m).2 c w hr hcl) fun v' m' ⟨h3,h4⟩=>by subst h3; subst h4; exact hK
 ·split at h
  ·split at h
   ·obtain ⟨v,h1,h2,h3⟩:=h
    exact .of_call (by rw [hrun,h1.1]) (h1.2 c w hr hcl) fun v' m' ⟨h5,h6⟩=>by subst h5; subst h6; exact h3
   ·exact h.elim
  ·obtain ⟨R,h1,h2,h3⟩:=h
   exact .of_call (by rw [hrun,h1.1]) (h1.2 c w hr hcl) h3

theorem aload_run (hG:CfgOk G) (hr:RelM G.W0 c m w) {t:TypeId} {x:TV} (hx:x.closed m.length=true) {K:TV→Mem→Prop} (h:aload G t x m K) :
  ∃ p v,x.conc c=.pointer (some p)∧(loadVar t p).run G.P w=.ok (v.conc c) w∧v.closed m.length=true∧K v m:=by
 unfold aload at h
 split at h
 ·rename_i i b o ht
  split at h
  ·rename_i k hk
   split at h
   ·rename_i v hv
    exact ⟨_,v,rfl,run_loadVar (hG.tys _ _ ht) hr hk hv,partV_closed hv (hr.cl b k hk),h⟩
   ·cases h
  ·cases h
 ·rename_i i p ht
  obtain ⟨v,hv,hK⟩:=h
  obtain ⟨h1,h2⟩:=run_loadVar_ext (hG.tys _ _ ht) hr hv
  exact ⟨_,v,rfl,h1,TV.closed_mono (Nat.zero_le _) h2,hK⟩
 ·cases h

theorem newOp_some {op:Op} {t:TypeId} {n:Nat} {l:List (Nat×Operand)} (h:newOp op=some (t,n,l)):∃ ps,op=.buildSlice t n ps∧ps.toList=l:=by
 cases op<;>simp [newOp] at h
 obtain ⟨rfl,rfl,rfl⟩:=h
 exact ⟨_,rfl,rfl⟩

theorem repS_closed {n:Nat} {z:List Sc} (h:closedL n z=true):∀ k,closedL n (repS k z)=true
 | 0=>rfl
 | k+1=>closedL_iff.2 fun s hs=>by
  simp only [repS,List.mem_append] at hs
  rcases hs with hs | hs
  ·exact closedL_iff.1 h s hs
  ·exact closedL_iff.1 (repS_closed h k) s hs

theorem repS_length (z:List Sc):∀ k,(repS k z).length=k*z.length
 | 0=>by simp [repS]
 | k+1=>by simp only [repS,List.length_append,repS_length z k,Nat.add_mul,Nat.one_mul]; omega

theorem repS_get (z:List Sc):∀ (k j:Nat),j<k*z.length→(repS k z)[j]?=z[j%z.length]?
 | 0,j,h=>by simp at h
 | k+1,j,h=>by
  simp only [repS]
  rcases Nat.lt_or_ge j z.length with hj | hj
  ·rw [List.getElem?_append_left hj,Nat.mod_eq_of_lt hj]
  ·rw [List.getElem?_append_right hj,repS_get z k (j-z.length) (by rw [Nat.add_mul,Nat.one_mul] at h; omega),← Nat.mod_eq_sub_mod hj]

theorem repS_conc (c:Con) (n es:Nat) (z:List Sc) (hz:z.length=es) :
  ((Array.range (n*es)).map ((if n*es=0 then #[] else (z.map (Sc.conc c)).toArray)[·%(if n*es=0 then #[] else (z.map (Sc.conc c)).toArray).size]!))=((repS n z).map (Sc.conc c)).toArray:=by
 apply Array.ext
 ·simp [repS_length,hz]
 ·intro j h1 h2
  have hj:j<n*es:=by simpa using h1
  have h0:¬ n*es=0:=by omega
  simp only [if_neg h0]
  simp only [Array.getElem_map,Array.getElem_range,List.getElem_toArray,List.getElem_map]
  have hg:=repS_get z n j (by rw [hz]; exact hj)
  have hlt:j<(repS n z).length:=by rw [repS_length,hz]; exact hj
  rw [List.getElem?_eq_getElem hlt] at hg
  have hpos:0<es:=Nat.pos_of_ne_zero fun h=>by subst h; simp at hj
  have hm:j%es<z.length:=by rw [hz]; exact Nat.mod_lt _ hpos
  rw [hz,List.getElem?_eq_getElem hm,Option.some.injEq] at hg
  have hm':j%es<(z.map (Sc.conc c)).length:=by simpa using hm
  simp [hz,hg,List.getElem?_eq_getElem hm]

theorem aop_sound (hG:CfgOk G) (hr:RelM G.W0 c m w) (hf:Fits c m.length e a) {o:Oper} {K:TV→Mem→Prop} (h:aop G o e m K):OpGoes G o c m a w K:=by
 unfold aop at h
 split at h
 ·rename_i t ho
  split at h
  ·rename_i i ht
   have hrow:=hG.tys _ _ ht
   simp only [snoc_eq] at h
   obtain ⟨z,hz1,hz2⟩:=hrow.zero c w
   obtain ⟨h1,h2⟩:=hr.push (t:=t) (closedL_mono (Nat.zero_le m.length) hrow.zc)
   refine .of_value ?_ h1 h2 (by simp [TV.closed,Sc.closed,SP.closed]) h
   have:(Con.add c m.length w.heap.size 0).ι m.length=w.heap.size:=by simp [Con.add]
   simp [execOp,ho,Instr.alloc,hz1,newVar,newRow,hz2,TV.conc,Sc.conc,SP.conc,this]
  ·cases h
 ·rename_i t x ho
  split at h
  ·rename_i v hv
   split at h
   ·rename_i cs hcs
    simp only [snoc_eq] at h
    obtain ⟨h0,hcl⟩:=opv_sound hf hv
    obtain ⟨h1,h2⟩:=hr.push (t:=t) (TV.cells_closed hcs hcl)
    refine .of_value ?_ h1 h2 (by simp [TV.closed,Sc.closed,SP.closed]) h
    have:(Con.add c m.length w.heap.size 0).ι m.length=w.heap.size:=by simp [Con.add]
    have hcc:=TV.cells_conc (c:=c) hcs hcl
    simp only [execOp,ho]
    apply run_value'
    simp only [Instr.box,h0,newVar,newRow,hcc,Sem.run_bind,run_newObj,Result.andThen_ok,Sem.run_pure]
    simp [TV.conc,Sc.conc,SP.conc,this]
   ·cases h
  ·cases h
 ·rename_i t x ho
  split at h
  ·rename_i v hv
   obtain ⟨h0,hcl⟩:=opv_sound hf hv
   obtain ⟨p,u,hp,hrun,hu,hK⟩:=aload_run hG hr hcl h
   refine .of_value ?_ hr (Since.refl c m w) hu hK
   rw [hp] at h0
   simp only [execOp,ho,h0]
   apply run_value
   simp [Instr.loadAt,Instr.sureAddr,hrun]
  ·cases h
 ·rename_i t x y ho
  split at h
  ·rename_i v u hv hu
   obtain ⟨h0,hcl⟩:=opv_sound hf hv
   obtain ⟨h0',hcl'⟩:=opv_sound hf hu
   split at h
   ·rename_i m' hm
    unfold astore at hm
    split at hm
    ·rename_i i b o' vs ht hvs
     split at hm
     ·rename_i l el es gr hk
      split at hm
      ·rename_i hsz
       have hsz:=Nat.eq_of_beq_eq_true hsz
       split at hm
       ·rename_i cs hput
        simp only [Option.some.injEq] at hm
        subst hm
        obtain ⟨w',hw,h1,h2⟩:=hr.store (P:=G.P) hk hput (TV.cells_closed hvs hcl')
        have hrow:=hG.tys _ _ ht
        refine .of_skip ?_ h1 h2 h
        have hcc:=TV.cells_conc (c:=c) hvs hcl'
        have hsv:(storeVar t ⟨c.ι b,o',none⟩ (u.conc c)).run G.P w=.ok () w':=by
         simp only [storeVar,Sem.run_bind,hrow.size,Result.andThen_ok,hcc]
         have:¬ ((vs.map (Sc.conc c)).toArray.size≠i.size):=by simp [hsz]
         simp only [if_neg this]
         exact hw
        simp only [TV.conc,Sc.conc,Option.map_some,SP.conc] at h0
        simp [execOp,ho,h0,h0',Instr.storeAt,Instr.sureAddr,hsv]
       ·cases hm
      ·cases hm
     ·cases hm
    ·cases hm
   ·cases h
  ·cases h
 ·rename_i f xs ts ho
  split at h
  ·rename_i vs hvs
   exact acall_sound hG hr hf ho hvs h
  ·cases h
 ·rename_i xs ts ho
  split at h
  ·rename_i vs hvs
   unfold optM at h
   split at h
   ·rename_i v m' hc
    unfold acopy at hc
    split at hc
    ·rename_i t ts' b o' dl dc b' o'' sl sc hts
     split at hc
     ·rename_i el es eb ag l el' es' gr y ht hx hy
      split at hc
      ·rename_i us hus
       split at hc
       ·rename_i cs hput
        simp only [Option.some.injEq,Prod.mk.injEq] at hc
        obtain ⟨rfl,rfl⟩:=hc
        obtain ⟨hargs,hcl⟩:=getOps_sound hf hvs
        obtain ⟨hu,hie,hue,hse,_,_⟩:=(hG.tys _ _ ht).k
        obtain ⟨eus,hlen⟩:=takeAt_spec hus
        have hul:us.length=Nat.min sl dl*es:=by rw [eus]; simp; omega
        have husc:closedL m.length us=true:=by
         rw [eus]
         exact closedL_iff.2 fun s hs=>closedL_iff.1 (hr.cl b' y hy) s (List.mem_of_mem_drop (List.mem_of_mem_take hs))
        obtain ⟨w',hw,h1,h2⟩:=hr.store (P:=G.P) hx hput husc
        refine .of_value ?_ h1 h2 rfl h
        have hload:(loadCells ⟨c.ι b',o'',none⟩ (us.map (Sc.conc c)).length).run G.P w=.ok (us.map (Sc.conc c)).toArray w:=run_loadCells fun j v hv=>by
         rw [List.getElem?_map] at hv
         simp only [Option.map_eq_some_iff] at hv
         obtain ⟨s,hs,rfl⟩:=hv
         have:y.cells[o''+j]?=some s:=by
          rw [eus] at hs
          rw [List.getElem?_take] at hs
          split at hs
          ·simpa using hs
          ·cases hs
         have ha:(Addr.mk (c.ι b') o'' none).add j=⟨c.ι b',o''+j,none⟩:=by unfold Addr.add; split<;>simp_all
         rw [ha]
         exact hr.cell hy this
        have hts0:ts[0]?=some t:=by rw [← Array.getElem?_toList,hts]; rfl
        have hA:xs.map a.eval=#[.slice (some ⟨c.ι b,o',none⟩) dl dc,.slice (some ⟨c.ι b',o'',none⟩) sl sc]:=by
         apply Array.ext'
         simpa [TV.conc,Sc.conc,SP.conc] using hargs
        have hlen':(us.map (Sc.conc c)).length=Nat.min sl dl*es:=by simp [hul]
        rw [hlen'] at hload
        simp only [execOp,ho,resolve,hA,pure_bind,invoke,builtin]
        apply run_value'
        simp [Builtin.copy_,hts0,r_underlying hu,Builtin.lenOf,Builtin.firstCells,r_sizeOf hie,hse,hload,hw,goInt,TV.conc,Sc.conc]
       ·cases hc
      ·cases hc
     ·cases hc
    ·cases hc
   ·cases h
  ·cases h
 ·split at h
  ·rename_i t n psl hn
   obtain ⟨ps,ho,rfl⟩:=newOp_some hn
   split at h
   ·rename_i vs hvs
    unfold optM at h
    split at h
    ·rename_i v m' hc
     unfold abuild at hc
     split at hc
     ·rename_i el es _ _ ht
      split at hc
      ·rename_i i hi
       split at hc
       ·rename_i hle
        obtain ⟨hle,hsz⟩:=of_decide_eq_true hle
        split at hc
        ·rename_i cs hcs
         simp only [snoc_eq,Option.some.injEq,Prod.mk.injEq] at hc
         obtain ⟨rfl,rfl⟩:=hc
         obtain ⟨hps,hcl⟩:=opvP_sound hf hvs
         have hrow:=hG.tys _ _ hi
         obtain ⟨hu,hie,hue,hse,_,_⟩:=(hG.tys _ _ ht).k
         have hrc:closedL m.length (repS n i.zero)=true:=repS_closed (closedL_mono (Nat.zero_le m.length) hrow.zc) n
         have hcc:=fillA_closed es vs _ cs hcs hrc hcl
         obtain ⟨h1,h2⟩:=hr.push (t:=el) hcc
         refine .of_value ?_ h1 h2 (by simp [TV.closed,Sc.closed,SP.closed]) h
         obtain ⟨z,hz1,hz2⟩:=hrow.zero c w
         have hfill:=fillA_sound es c vs _ cs hcl hcs
         have hps':(ps.map fun p=>(p.1,a.eval p.2)).toList=vs.map fun p=>(p.1,p.2.conc c):=by
          rw [Array.toList_map,← hps]
         have hrep:=repS_conc c n es i.zero hsz
         have this:(Con.add c m.length w.heap.size 0).ι m.length=w.heap.size:=by simp [Con.add]
         have hgt:¬ (n*es > 2^24):=by omega
         simp only [execOp,ho]
         apply run_value'
         by_cases h0:n*es=0
         ·simp only [if_pos h0] at hrep
          simp only [Instr.buildSlice,Sem.run_bind,r_underlying hu,Result.andThen_ok,r_sizeOf hie,hse,if_neg hgt,if_pos h0,Sem.run_pure]
          rw [show (ps.map fun x=>match x with | (i,x)=>(i,a.eval x))=ps.map fun p=>(p.1,a.eval p.2) from rfl,hps',hrep,hfill]
          simp only [newRow,Sem.run_bind,run_newObj,Result.andThen_ok,Sem.run_pure]
          simp [TV.conc,Sc.conc,SP.conc,this]
         ·simp only [if_neg h0] at hrep
          simp only [Instr.buildSlice,Sem.run_bind,r_underlying hu,Result.andThen_ok,r_sizeOf hie,hse,if_neg hgt,if_neg h0,Sem.run_pure,hz1,hz2]
          rw [show (ps.map fun x=>match x with | (i,x)=>(i,a.eval x))=ps.map fun p=>(p.1,a.eval p.2) from rfl,hps',hrep,hfill]
          simp only [newRow,Sem.run_bind,run_newObj,Result.andThen_ok,Sem.run_pure]
          simp [TV.conc,Sc.conc,SP.conc,this]
        ·cases hc
       ·cases hc
      ·cases hc
     ·cases hc
    ·cases h
   ·cases h
  ·split at h
   ·rename_i v hv
    obtain ⟨h1,h2⟩:=pval_sound hG.tys hf hv
    exact .of_value (h1 w) hr (Since.refl c m w) h2 h
   ·cases h

end
end Go.Ev

namespace Go.Ev

section
variable {G:Cfg} {c:Con} {m:Mem} {e e':Env} {a:Act} {w:World} {ops:Array Oper}

def EnvEq (e e':Env):Prop:=∀ t,get e t=get e' t

theorem EnvEq.symm (h:EnvEq e e'):EnvEq e' e:=fun t=>(h t).symm

def SameAt (l:List Tmp) (e e':Env):Prop:=∀ t∈l,get e t=get e' t

theorem opv_same {x:Operand} (h:∀ t,x=.tmp t→get e t=get e' t):opv e x=opv e' x:=by
 cases x with
 | tmp t=>exact h t rfl
 | _=>rfl

theorem getOps_same:∀ {xs:List Operand},(∀ x∈xs,opv e x=opv e' x)→getOps e xs=getOps e' xs
 | [],_=>rfl
 | x::xs,h=>by
  simp only [getOps,h x (by simp),getOps_same (xs:=xs) (fun y hy=>h y (by simp [hy]))]

theorem opvP_same:∀ {xs:List (Nat×Operand)},(∀ x∈xs,opv e x.2=opv e' x.2)→opvP e xs=opvP e' xs
 | [],_=>rfl
 | (i,x)::xs,h=>by
  simp only [opvP,h (i,x) (by simp),opvP_same (xs:=xs) (fun y hy=>h y (by simp [hy]))]

theorem bound_same {x:Option Operand} {d:Nat} (h:∀ y∈x.toList,opv e y=opv e' y):bound e x d=bound e' x d:=by
 cases x with
 | none=>rfl
 | some y=>simp [bound,h y (by simp)]

theorem pval_same {T:Tys} {op:Op} (h:∀ x∈op.operands.toList,opv e x=opv e' x):pval T op e=pval T op e':=by
 cases op with
 | move x | assign x=>exact h x (by simp [Op.operands])
 | pick x y z=>simp only [pval,h x (by simp [Op.operands]),h y (by simp [Op.operands]),h z (by simp [Op.operands])]
 | nilCheck x | unOp _ _ x | convert _ _ x | extract x _ | fieldAddr _ x _ | field _ x _ | sliceToArrayPointer _ x=>simp only [pval,h x (by simp [Op.operands])]
 | binOp _ _ x y _ | indexAddr _ x y | index _ x y=>simp only [pval,h x (by simp [Op.operands]),h y (by simp [Op.operands])]
 | build t ps=>
  have:=opvP_same (e:=e) (e':=e') (xs:=ps.toList) (fun p hp=>h p.2 (by simp [Op.operands]; exact ⟨p.1,by simpa using hp⟩))
  simp only [pval,this]
 | slice t x lo hi mx=>
  cases mx with
  | some _=>rfl
  | none=>
   simp only [pval,h x (by simp [Op.operands]),bound_same (e:=e) (e':=e') (x:=lo) (d:=0) (fun y hy=>h y (by simp [Op.operands]; simp at hy; simp [hy])),
    bound_same (e:=e) (e':=e') (x:=hi) (fun y hy=>h y (by simp [Op.operands]; simp at hy; simp [hy]))]
 | call cl=>
  obtain ⟨callee,xs,ts⟩:=cl
  have:=getOps_same (e:=e) (e':=e') (xs:=xs.toList) (fun x hx=>h x (by simp [Op.operands,Call.operands]; right; simpa using hx))
  cases callee with
  | builtin b=>cases b<;>simp only [pval,this]
  | _=>rfl
 | _=>rfl

theorem aop_same {o:Oper} {K:TV→Mem→Prop} (h:∀ x∈o.op.operands.toList,opv e x=opv e' x) (hh:aop G o e m K):aop G o e' m K:=by
 unfold aop at *
 have hp:=pval_same (T:=G.T) h
 split at hh
 ·exact hh
 ·rename_i t x ho
  rw [ho] at h
  simp only [← h x (by simp [Op.operands])]; exact hh
 ·rename_i t x ho
  rw [ho] at h
  simp only [← h x (by simp [Op.operands])]; exact hh
 ·rename_i t x y ho
  rw [ho] at h
  simp only [← h x (by simp [Op.operands]),← h y (by simp [Op.operands])]; exact hh
 ·rename_i f xs ts ho
  rw [ho] at h
  have:=getOps_same (e:=e) (e':=e') (xs:=xs.toList) (fun x hx=>h x (by simp [Op.operands,Call.operands]; right; simpa using hx))
  simp only [← this]; exact hh
 ·rename_i xs ts ho
  rw [ho] at h
  have:=getOps_same (e:=e) (e':=e') (xs:=xs.toList) (fun x hx=>h x (by simp [Op.operands,Call.operands]; simpa using hx))
  simp only [← this]; exact hh
 ·split at hh
  ·rename_i t n psl hn
   obtain ⟨ps,ho,rfl⟩:=newOp_some hn
   rw [ho] at h
   have:=opvP_same (e:=e) (e':=e') (xs:=ps.toList) (fun x hx=>h x.2 (by simp only [Op.operands]; simp only [List.mem_map]; exact ⟨x,hx,rfl⟩))
   simp only [← this]; exact hh
  ·simp only [← hp]; exact hh

theorem primC_mono {p:Prim} {args:List TV} {K K':TV→Prop} (hk:∀ v,K v→K' v) (h:primC p args K):primC p args K':=by
 unfold primC at *
 split at h
 ·exact ⟨h.1,fun s t h1 h2 h3 h4=>hk _ (h.2 s t h1 h2 h3 h4)⟩
 ·exact ⟨h.1,fun s t h1 h2 h3 h4 h5=>hk _ (h.2 s t h1 h2 h3 h4 h5)⟩
 ·exact ⟨h.1,fun s t h1 h2 h3 h4 h5 h6=>hk _ (h.2 s t h1 h2 h3 h4 h5 h6)⟩
 ·exact h

theorem acall_mono {f:FuncId} {args:List TV} {K K':TV→Mem→Prop} (hk:∀ v m,K v m→K' v m) (h:acall G f args m K):acall G f args m K':=by
 unfold acall at *
 split at h
 ·exact primC_mono (fun v=>hk v m) h
 ·split at h
  ·split at h
   ·obtain ⟨v,h1,h2,h3⟩:=h; exact ⟨v,h1,h2,hk _ _ h3⟩
   ·exact h.elim
  ·obtain ⟨R,h1,h2,h3⟩:=h; exact ⟨R,h1,h2,fun v m' hr=>hk _ _ (h3 v m' hr)⟩

theorem aload_mono {t:TypeId} {x:TV} {K K':TV→Mem→Prop} (hk:∀ v m,K v m→K' v m) (h:aload G t x m K):aload G t x m K':=by
 unfold aload at *
 split at h
 ·split at h
  ·split at h
   ·exact hk _ _ h
   ·exact h
  ·exact h
 ·obtain ⟨v,h1,h2⟩:=h; exact ⟨v,h1,hk _ _ h2⟩
 ·exact h

theorem aop_mono {o:Oper} {K K':TV→Mem→Prop} (hk:∀ v m,K v m→K' v m) (h:aop G o e m K):aop G o e m K':=by
 unfold aop at *
 split at h
 ·split at h
  ·exact hk _ _ h
  ·exact h
 ·split at h
  ·split at h
   ·exact hk _ _ h
   ·exact h
  ·exact h
 ·split at h
  ·exact aload_mono hk h
  ·exact h
 ·split at h
  ·split at h
   ·exact hk _ _ h
   ·exact h
  ·exact h
 ·split at h
  ·exact acall_mono hk h
  ·exact h
 ·split at h
  ·unfold optM at *
   split at h
   ·exact hk _ _ h
   ·exact h
  ·exact h
 ·split at h
  ·split at h
   ·unfold optM at *
    split at h
    ·exact hk _ _ h
    ·exact h
   ·exact h
  ·split at h
   ·exact hk _ _ h
   ·exact h

theorem acall_strict (hG:CfgOk G) {f:FuncId} {args:List TV} {K:TV→Mem→Prop} (h:acall G f args m K):∃ v m',K v m':=by
 unfold acall at h
 split at h
 ·rename_i p hp
  obtain ⟨v,hK,_⟩:=hG.prim f p hp args _ h
  exact ⟨v,m,hK⟩
 ·split at h
  ·split at h
   ·obtain ⟨v,_,_,h3⟩:=h; exact ⟨v,m,h3⟩
   ·exact h.elim
  ·obtain ⟨R,_,⟨v,m',h2⟩,h3⟩:=h; exact ⟨v,m',h3 v m' h2⟩

theorem aop_strict (hG:CfgOk G) {o:Oper} {K:TV→Mem→Prop} (h:aop G o e m K):∃ v m',K v m':=by
 unfold aop at h
 split at h
 ·split at h
  ·exact ⟨_,_,h⟩
  ·exact h.elim
 ·split at h
  ·split at h
   ·exact ⟨_,_,h⟩
   ·exact h.elim
  ·exact h.elim
 ·split at h
  ·unfold aload at h
   split at h
   ·split at h
    ·split at h
     ·exact ⟨_,_,h⟩
     ·exact h.elim
    ·exact h.elim
   ·obtain ⟨v,_,h2⟩:=h; exact ⟨_,_,h2⟩
   ·exact h.elim
  ·exact h.elim
 ·split at h
  ·split at h
   ·exact ⟨_,_,h⟩
   ·exact h.elim
  ·exact h.elim
 ·split at h
  ·exact acall_strict hG h
  ·exact h.elim
 ·split at h
  ·unfold optM at h
   split at h
   ·exact ⟨_,_,h⟩
   ·exact h.elim
  ·exact h.elim
 ·split at h
  ·split at h
   ·unfold optM at h
    split at h
    ·exact ⟨_,_,h⟩
    ·exact h.elim
   ·exact h.elim
  ·split at h
   ·exact ⟨_,_,h⟩
   ·exact h.elim

theorem aop_kind0 {o:Oper} {K:TV→Mem→Prop} (hk:opKind G o.op=0) (h:aop G o e m K):∃ v,pval G.T o.op e=some v∧K v m:=by
 unfold aop at h
 split at h
 ·rename_i ho; simp [opKind,ho] at hk
 ·rename_i ho; simp [opKind,ho] at hk
 ·rename_i ho; simp [opKind,ho] at hk
 ·rename_i ho; simp [opKind,ho] at hk
 ·rename_i f xs ts ho
  simp only [opKind,ho] at hk
  split at hk
  ·cases hk
  ·split at hk<;>cases hk
 ·rename_i ho; simp [opKind,ho] at hk
 ·split at h
  ·rename_i hn
   obtain ⟨ps,ho,rfl⟩:=newOp_some hn
   simp [opKind,ho,newOp] at hk
  ·split at h
   ·rename_i v hv; exact ⟨v,hv,h⟩
   ·exact h.elim

theorem aop_of_kind0 {o:Oper} {K:TV→Mem→Prop} (hk:opKind G o.op=0) {v:TV} (hv:pval G.T o.op e=some v) (h:K v m):aop G o e m K:=by
 unfold aop
 split
 ·rename_i ho; simp [opKind,ho] at hk
 ·rename_i ho; simp [opKind,ho] at hk
 ·rename_i ho; simp [opKind,ho] at hk
 ·rename_i ho; simp [opKind,ho] at hk
 ·rename_i f xs ts ho
  simp only [opKind,ho] at hk
  split at hk
  ·cases hk
  ·split at hk<;>cases hk
 ·rename_i ho; simp [opKind,ho] at hk
 ·split
  ·rename_i hn
   obtain ⟨ps,ho,rfl⟩:=newOp_some hn
   simp [opKind,ho,newOp] at hk
  ·rw [hv]; exact h

theorem aop_kind1 (hG:CfgOk G) {o:Oper} {K:TV→Mem→Prop} (hk:opKind G o.op=1) (h:aop G o e m K):∃ v,aop G o e m (fun v' m'=>v'=v∧m'=m)∧K v m:=by
 unfold aop at *
 split at h
 ·rename_i ho; simp [opKind,ho] at hk
 ·rename_i ho; simp [opKind,ho] at hk
 ·split at h
  ·unfold aload at *
   split at h
   ·split at h
    ·split at h
     ·rename_i v hv; exact ⟨v,⟨rfl,rfl⟩,h⟩
     ·exact h.elim
    ·exact h.elim
   ·obtain ⟨v,h1,h2⟩:=h; exact ⟨v,⟨v,h1,rfl,rfl⟩,h2⟩
   ·exact h.elim
  ·exact h.elim
 ·rename_i ho; simp [opKind,ho] at hk
 ·rename_i f xs ts ho
  split at h
  ·rename_i vs hvs
   unfold acall at *
   simp only [opKind,ho] at hk
   split at h
   ·rename_i p hp
    obtain ⟨v,hK,hall,_⟩:=hG.prim f p hp vs _ h
    exact ⟨v,hall _ ⟨rfl,rfl⟩,hK⟩
   ·rename_i hp
    simp only [hp] at hk
    split at h
    ·split at h
     ·obtain ⟨v,h1,h2,h3⟩:=h; exact ⟨v,⟨v,h1,h2,rfl,rfl⟩,h3⟩
     ·exact h.elim
    ·rename_i hr; simp [hr] at hk
  ·exact h.elim
 ·rename_i ho; simp [opKind,ho] at hk
 ·rename_i h1 h2 h3 h4 h5 h6
  exfalso
  revert hk
  cases hop:o.op<;>simp [opKind,newOp]
  ·exact h3 _ _ hop
  ·rename_i cl
   obtain ⟨callee,xs,ts⟩:=cl
   cases callee with
   | value f=>cases f<;>simp; exact absurd hop (h5 _ _ _)
   | builtin b=>cases b<;>simp
   | _=>simp

end
end Go.Ev

namespace Go.Ev
section
variable {G:Cfg} {ops:Array Oper}

def aSt (G:Cfg) (ops:Array Oper) (o:Oper) (e:Env) (m:Mem) (K:TV→Mem→Prop):Prop:=
 match wantedA ops.toList o.guard e with
 | some true=>aop G o e m K
 | some false=>K (.tup []) m
 | none=>False

theorem wantedA_same {o:Oper} {e e':Env} (h:SameAt (o.looksAt ops) e e'):wantedA ops.toList o.guard e=wantedA ops.toList o.guard e':=by
 unfold wantedA
 cases hg:o.guard with
 | none=>rfl
 | some gw=>
  obtain ⟨j,want⟩:=gw
  simp only
  cases ho:ops.toList[j]? with
  | none=>rfl
  | some oj=>
   simp only
   cases hd:oj.dst with
   | none=>rfl
   | some t=>
    simp only
    have:t∈o.looksAt ops:=by
     unfold Oper.looksAt
     rw [hg]
     have:ops[j]?=some oj:=by simpa using ho
     simp [this,hd]
    rw [h t this]

theorem operands_same {o:Oper} {e e':Env} (h:SameAt (o.looksAt ops) e e'):∀ x∈o.op.operands.toList,opv e x=opv e' x:=fun x hx=>
 opv_same fun t ht=>h t (by
  unfold Oper.looksAt
  exact List.mem_append_left _ (List.mem_filterMap.2 ⟨x,hx,by rw [ht]⟩))

theorem aSt_same {o:Oper} {e e':Env} {m:Mem} {K:TV→Mem→Prop} (h:SameAt (o.looksAt ops) e e') (hh:aSt G ops o e m K):aSt G ops o e' m K:=by
 unfold aSt at *
 rw [← wantedA_same h]
 split at hh
 ·exact aop_same (operands_same h) hh
 ·exact hh
 ·exact hh

theorem aSt_mono {o:Oper} {e:Env} {m:Mem} {K K':TV→Mem→Prop} (hk:∀ v m,K v m→K' v m) (h:aSt G ops o e m K):aSt G ops o e m K':=by
 unfold aSt at *
 split at h
 ·exact aop_mono hk h
 ·exact hk _ _ h
 ·exact h

theorem aSt_strict (hG:CfgOk G) {o:Oper} {e:Env} {m:Mem} {K:TV→Mem→Prop} (h:aSt G ops o e m K):∃ v m',K v m':=by
 unfold aSt at h
 split at h
 ·exact aop_strict hG h
 ·exact ⟨_,_,h⟩
 ·exact h.elim

def pv0 (G:Cfg) (ops:Array Oper) (o:Oper) (e:Env):Option TV:=
 match wantedA ops.toList o.guard e with
 | some true=>pval G.T o.op e
 | some false=>some (.tup [])
 | none=>none

theorem aSt_kind0 {o:Oper} {e:Env} {m:Mem} {K:TV→Mem→Prop} (hk:opKind G o.op=0) (h:aSt G ops o e m K):∃ v,pv0 G ops o e=some v∧K v m:=by
 unfold aSt at h
 unfold pv0
 split at h
 ·exact aop_kind0 hk h
 ·exact ⟨_,rfl,h⟩
 ·exact h.elim

theorem aSt_of_kind0 {o:Oper} {e:Env} {m:Mem} {K:TV→Mem→Prop} (hk:opKind G o.op=0) {v:TV} (hv:pv0 G ops o e=some v) (h:K v m):aSt G ops o e m K:=by
 unfold aSt
 unfold pv0 at hv
 split at hv
 ·rename_i hw; exact aop_of_kind0 hk hv h
 ·rename_i hw
  simp only [Option.some.injEq] at hv
  subst hv; exact h
 ·cases hv

theorem aSt_kind1 (hG:CfgOk G) {o:Oper} {e:Env} {m:Mem} {K:TV→Mem→Prop} (hk:opKind G o.op=1) (h:aSt G ops o e m K):∃ v,aSt G ops o e m (fun v' m'=>v'=v∧m'=m)∧K v m:=by
 unfold aSt at *
 split at h
 ·exact aop_kind1 hG hk h
 ·exact ⟨_,⟨rfl,rfl⟩,h⟩
 ·exact h.elim

theorem closedTs_iff {n:Nat}:∀ {l:List TV},closedTs n l=true↔∀ v∈l,v.closed n=true
 | []=>by simp [closedTs]
 | v::l=>by
  simp only [closedTs,List.mem_cons,forall_eq_or_imp]
  rw [← closedTs_iff (l:=l)]
  cases v.closed n<;>simp

theorem closedMs_spec {n:Nat}:∀ {l:Mem},closedMs n l=true→∀ b x,nth l b=some x→closedL n x.cells=true
 | [],_,b,x,hx=>by simp [nth] at hx
 | some y::l,h,b,x,hx=>by
  simp only [closedMs] at h
  split at h
  ·rename_i hy
   cases b with
   | zero=>
    simp only [nth,Option.some.injEq] at hx
    subst hx; exact hy
   | succ b=>exact closedMs_spec h b x hx
  ·cases h
 | none::l,h,b,x,hx=>by
  simp only [closedMs] at h
  cases b with
  | zero=>simp [nth] at hx
  | succ b=>exact closedMs_spec h b x hx

theorem closedMs_snoc {n n':Nat} {z:Option Blk}:∀ {l:Mem},closedMs n l=true→n≤n'→(∀ x,z=some x→closedL 0 x.cells=true)→closedMs n' (l++[z])=true
 | [],_,_,hz=>by
  cases z with
  | none=>rfl
  | some x=>simp [closedMs,closedL_mono (Nat.zero_le n') (hz x rfl)]
 | some y::l,h,hn,hz=>by
  simp only [closedMs] at h
  split at h
  ·rename_i hy
   simp only [List.cons_append,closedMs,closedL_mono hn hy]
   exact closedMs_snoc h hn hz
  ·cases h
 | none::l,h,hn,hz=>by
  simp only [closedMs] at h
  simp only [List.cons_append,closedMs]
  exact closedMs_snoc h hn hz

theorem CALL_ext {P:Program} {W0:World} {f:FuncId} {args:List TV} {m:Mem} {v:TV} {z:Option Blk} (h:CALL P W0 f args m fun v' m'=>v'=v∧m'=m) (ha:(closedTs m.length args&&closedMs m.length m)=true) (hv:v.closed m.length=true) :
  CALL P W0 f args (m++[z]) fun v' m'=>v'=v∧m'=m++[z]:=by
 refine ⟨h.1,fun c w hr _=>?_⟩
 have old:∀ b x,nth m b=some x→nth (m++[z]) b=some x:=fun b x hx=>by rw [nth_append_lt (nth_lt hx)]; exact hx
 have hz:∀ b x,nth (m++[z]) b=some x→nth m b=some x∨(b=m.length∧z=some x):=fun b x hx=>by
  have hlt:=nth_lt hx
  simp only [List.length_append,List.length_cons,List.length_nil] at hlt
  by_cases hb:b<m.length
  ·rw [nth_append_lt hb] at hx; exact .inl hx
  ·have:b=m.length:=by omega
   subst this
   rw [nth_append_last] at hx
   exact .inr ⟨rfl,hx⟩
 simp only [Bool.and_eq_true] at ha
 obtain ⟨ha,hcm⟩:=ha
 have hcl:∀ b x,nth m b=some x→closedL m.length x.cells=true:=closedMs_spec hcm
 have hr0:RelM W0 c m w:=⟨fun b x hx=>hr.blk b x (old b x hx),hcl,fun a b x y hx hy e=>hr.inj a b x y (old a x hx) (old b y hy) e,
  fun b hb=>hr.ge b (by simp; omega),fun b hb=>hr.lt b (by simp; omega),hr.ext,hr.size,hr.os,hr.tape,hr.output⟩
 refine (h.2 c w hr0 (closedTs_iff.1 ha)).mono fun e w' hh=>?_
 obtain ⟨v',m',c',h1,h2,h3,h4,rfl,rfl⟩:=hh
 have hag:Agree m'.length c c':=h3.agree
 refine ⟨v',m'++[z],c,by rw [h1,TV.conc_agree hag hv],?_,?_,TV.closed_mono (by simp) hv,rfl,rfl⟩
 ·refine ⟨fun b x hx=>?_,hr.cl,hr.inj,hr.ge,fun b hb=>Nat.lt_of_lt_of_le (hr.lt b hb) h3.size,h2.ext,h2.size,h2.os,h2.tape,h2.output⟩
  rcases hz b x hx with hx' | ⟨rfl,rfl⟩
  ·obtain ⟨junk,k1,k2,k3⟩:=h2.blk b x hx'
   have hb:=nth_lt hx'
   rw [(hag b hb).1,concL_agree hag (hcl b x hx')] at k1
   rw [(hag b hb).2] at k3
   exact ⟨junk,k1,k2,k3⟩
  ·obtain ⟨junk,k1,k2,k3⟩:=hr.blk _ x hx
   refine ⟨junk,?_,k2,k3⟩
   rw [h3.keep _ (hr.lt _ (nth_lt hx)) (fun d y hd e'=>?_)]
   ·exact k1
   ·have:=hr.inj d m'.length y x (old d y hd) hx e'
    have:=nth_lt hd
    omega
 ·refine ⟨Nat.le_refl _,fun _ _=>⟨rfl,rfl⟩,h3.size,fun r hr' hno=>h3.keep r hr' fun b x hx=>hno b x (old b x hx),fun b x hx h1=>absurd (nth_lt hx) (by omega),fun b x hx _=>⟨x,hx⟩⟩

theorem aSt_ext {o:Oper} {e:Env} {m:Mem} {v:TV} {z:Option Blk} (hz:∀ x,z=some x→closedL 0 x.cells=true) (hk:opKind G o.op=1) (h:aSt G ops o e m fun v' m'=>v'=v∧m'=m) :
  aSt G ops o e (m++[z]) fun v' m'=>v'=v∧m'=m++[z]:=by
 unfold aSt at *
 split at h
 ·unfold aop at *
  split at h
  ·rename_i ho; simp [opKind,ho] at hk
  ·rename_i ho; simp [opKind,ho] at hk
  ·split at h
   ·unfold aload at *
    split at h
    ·split at h
     ·rename_i k hn
      rw [nth_append_lt (nth_lt hn),hn]
      split at h
      ·rename_i u hu
       simp only [hu]
       exact ⟨h.1,trivial⟩
      ·exact h.elim
     ·exact h.elim
    ·obtain ⟨u,h1,h2⟩:=h; exact ⟨u,h1,h2.1,rfl⟩
    ·exact h.elim
   ·exact h.elim
  ·rename_i ho; simp [opKind,ho] at hk
  ·rename_i f xs ts ho
   split at h
   ·rename_i vs hvs
    unfold acall at *
    simp only [opKind,ho] at hk
    split at h
    ·exact primC_mono (fun v' hv'=>⟨hv'.1,rfl⟩) h
    ·rename_i hp
     simp only [hp] at hk
     split at h
     ·split at h
      ·rename_i hcl
       obtain ⟨u,h1,h2,h3,_⟩:=h
       subst h3
       have hcl':(closedTs (m++[z]).length vs&&closedMs (m++[z]).length (m++[z]))=true:=by
        simp only [Bool.and_eq_true] at hcl ⊢
        exact ⟨closedTs_iff.2 fun v hv=>TV.closed_mono (by simp) (closedTs_iff.1 hcl.1 v hv),closedMs_snoc hcl.2 (by simp) hz⟩
       rw [hcl']
       exact ⟨u,CALL_ext h1 hcl h2,TV.closed_mono (by simp) h2,rfl,rfl⟩
      ·exact h.elim
     ·rename_i hr; simp [hr] at hk
   ·exact h.elim
  ·rename_i ho; simp [opKind,ho] at hk
  ·rename_i h1 h2 h3 h4 h5 h6
   exfalso
   revert hk
   cases hop:o.op<;>simp [opKind,newOp]
   ·exact h3 _ _ hop
   ·rename_i cl
    obtain ⟨callee,xs,ts⟩:=cl
    cases callee with
    | value f=>cases f<;>simp; exact absurd hop (h5 _ _ _)
    | builtin b=>cases b<;>simp
    | _=>simp
 ·exact ⟨h.1,rfl⟩
 ·exact h.elim

theorem aSt_alloc (hG:CfgOk G) {o:Oper} {e:Env} {m:Mem} {K K':TV→Mem→Prop} (hk:opKind G o.op=3) (hkk0:∀ v,K v m→K' v m)
  (hkk:∀ z v,(∀ x,z=some x→closedL 0 x.cells=true)→K v (m++[z])→K' v (m++[z])) (h:aSt G ops o e m K):aSt G ops o e m K':=by
 unfold aSt at *
 split at h
 ·unfold aop at *
  split at h
  ·rename_i t ho
   split at h
   ·rename_i i ht
    simp only
    rw [snoc_eq] at h ⊢
    exact hkk _ _ (fun x hx=>by simp only [Option.some.injEq] at hx; subst hx; exact (hG.tys _ _ ht).zc) h
   ·exact h.elim
  ·rename_i ho; simp [opKind,ho] at hk
  ·rename_i ho; simp [opKind,ho] at hk
  ·rename_i ho; simp [opKind,ho] at hk
  ·rename_i f xs ts ho
   simp only [opKind,ho] at hk
   split at hk
   ·cases hk
   ·split at hk<;>cases hk
  ·rename_i ho; simp [opKind,ho] at hk
  ·rename_i h1 h2 h3 h4 h5 h6
   exfalso
   revert hk
   cases hop:o.op<;>simp [opKind,newOp]
   ·exact h1 _ hop
   ·rename_i cl
    obtain ⟨callee,xs,ts⟩:=cl
    cases callee with
    | value f=>cases f<;>simp; exact absurd hop (h5 _ _ _)
    | builtin b=>cases b<;>simp
    | _=>simp
 ·exact hkk0 _ h
 ·exact h.elim

theorem swap (hG:CfgOk G) {oi oj:Oper} (hap:oi.apart ops oj=true) (hk:compat (opKind G oi.op) (opKind G oj.op)=true) {e:Env} {m:Mem} {K:TV→TV→Mem→Prop}
  (h:aSt G ops oi e m fun vi m1=>aSt G ops oj (putE oi.dst vi e) m1 fun vj m2=>K vi vj m2) :
  aSt G ops oj e m fun vj m1=>aSt G ops oi (putE oj.dst vj e) m1 fun vi m2=>K vi vj m2:=by
 obtain ⟨h1,h2,h3⟩:=Oper.apart_spec hap
 have put_same:∀ {x:Oper} {l:List Tmp} {v:TV},(∀ d,x.dst=some d→d ∉ l)→SameAt l (putE x.dst v e) e:=by
  intro x l v hx t ht
  cases hd:x.dst with
  | none=>rfl
  | some d=>
   simp only [putE,get]
   have:Nat.beq d t=false:=by
    cases hb:Nat.beq d t with
    | false=>rfl
    | true=>exact absurd ht (by have:=Nat.eq_of_beq_eq_true hb; subst this; exact hx d hd)
   rw [this]
 have h':aSt G ops oi e m fun vi m1=>aSt G ops oj e m1 fun vj m2=>K vi vj m2:=aSt_mono (fun vi m1 hh=>aSt_same (put_same h1) hh) h
 refine aSt_mono (fun vj m1 (hh:aSt G ops oi e m1 fun vi m2=>K vi vj m2)=>aSt_same (fun t ht=>(put_same h3 t ht).symm) hh) ?_
 have k3:∀ o:Op,opKind G o=0∨opKind G o=1∨opKind G o=2∨opKind G o=3:=by
  intro o
  have:opKind G o≤3:=by
   unfold opKind
   repeat' split
   all_goals omega
  omega
 have second0:opKind G oj.op=0→aSt G ops oj e m fun vj m1=>aSt G ops oi e m1 fun vi m2=>K vi vj m2:=fun kj=>by
  obtain ⟨vi,m1,hh⟩:=aSt_strict hG h'
  obtain ⟨vj,hv,_⟩:=aSt_kind0 kj hh
  refine aSt_of_kind0 kj hv (aSt_mono (fun vi m1 hh=>?_) h')
  obtain ⟨vj',hv',hK⟩:=aSt_kind0 kj hh
  rw [hv] at hv'
  simp only [Option.some.injEq] at hv'
  subst hv'; exact hK
 rcases k3 oi.op with ki | ki | ki | ki
 ·obtain ⟨vi,hv,hK⟩:=aSt_kind0 ki h'
  exact aSt_mono (fun vj m1 hh=>aSt_of_kind0 ki hv hh) hK
 ·rcases k3 oj.op with kj | kj | kj | kj
  ·exact second0 kj
  ·obtain ⟨vi,hi,hh⟩:=aSt_kind1 hG ki h'
   obtain ⟨vj,hj,hK⟩:=aSt_kind1 hG kj hh
   refine aSt_mono (fun v' m' e'=>?_) hj
   obtain ⟨rfl,rfl⟩:=e'
   refine aSt_mono (fun v'' m'' e''=>?_) hi
   obtain ⟨rfl,rfl⟩:=e''
   exact hK
  ·rw [ki,kj] at hk; cases hk
  ·obtain ⟨vi,hi,hh⟩:=aSt_kind1 hG ki h'
   exact aSt_alloc hG kj (fun v hK=>aSt_mono (fun v' m' e'=>by obtain ⟨rfl,rfl⟩:=e'; exact hK) hi)
    (fun z v hz hK=>aSt_mono (fun v' m' e'=>by obtain ⟨rfl,rfl⟩:=e'; exact hK) (aSt_ext (z:=z) hz ki hi)) hh
 ·rcases k3 oj.op with kj | kj | kj | kj
  ·exact second0 kj
  ·rw [ki,kj] at hk; cases hk
  ·rw [ki,kj] at hk; cases hk
  ·rw [ki,kj] at hk; cases hk
 ·rcases k3 oj.op with kj | kj | kj | kj
  ·exact second0 kj
  ·rw [ki,kj] at hk; cases hk
  ·rw [ki,kj] at hk; cases hk
  ·rw [ki,kj] at hk; cases hk

def aAt (G:Cfg) (ops:Array Oper) (i:Nat) (K:Env→Mem→Prop) (e:Env) (m:Mem):Prop:=
 match ops[i]? with
 | none=>K e m
 | some o=>aSt G ops o e m fun v m'=>K (putE o.dst v e) m'

def aAny (G:Cfg) (ops:Array Oper) (K:Env→Mem→Prop):Nat→Array Bool→Env→Mem→Prop
 | 0,listed,e,m=>Region.ready .any ops listed=[]∧K e m
 | f+1,listed,e,m=>(Region.ready .any ops listed=[]→K e m)∧∀ i∈Region.ready .any ops listed,aAt G ops i (aAny G ops K f (listed.setIfInBounds i true)) e m

theorem EnvEq.put {e e':Env} (h:EnvEq e e') (d:Option Tmp) (v:TV):EnvEq (putE d v e) (putE d v e'):=by
 cases d with
 | none=>exact h
 | some t=>
  intro s
  simp only [putE,get]
  split
  ·rfl
  ·exact h s

theorem aAny_resp {K:Env→Mem→Prop} (hK:∀ e e' m,EnvEq e e'→K e m→K e' m):∀ (f:Nat) (listed:Array Bool) (e e':Env) (m:Mem),EnvEq e e'→aAny G ops K f listed e m→aAny G ops K f listed e' m
 | 0,listed,e,e',m,he,h=>⟨h.1,hK _ _ _ he h.2⟩
 | f+1,listed,e,e',m,he,h=>by
  refine ⟨fun h0=>hK _ _ _ he (h.1 h0),fun i hi=>?_⟩
  have hh:=h.2 i hi
  unfold aAt at *
  split at hh
  ·exact aAny_resp hK f _ _ _ _ he hh
  ·rename_i o ho
   exact aSt_same (fun t _=>he t) (aSt_mono (fun v m' hx=>aAny_resp hK f _ _ _ _ (he.put o.dst v) hx) hh)

theorem put_comm {x y:Option Tmp} (h:∀ d,x=some d→y≠some d) (v u:TV) (e:Env):EnvEq (putE x v (putE y u e)) (putE y u (putE x v e)):=by
 intro s
 cases x with
 | none=>rfl
 | some d=>
  cases y with
  | none=>rfl
  | some d'=>
   have hne:d≠d':=fun e=>h d rfl (by rw [e])
   simp only [putE,get]
   cases h1:Nat.beq d s with
   | false=>rfl
   | true=>
    have h1:=Nat.eq_of_beq_eq_true h1
    have h2:Nat.beq d' s=false:=by
     cases h2:Nat.beq d' s with
     | false=>rfl
     | true=>exact absurd (h1.trans (Nat.eq_of_beq_eq_true h2).symm) hne
    simp [h2]

theorem aAny_first (hG:CfgOk G) {K:Env→Mem→Prop} (hK:∀ e e' m,EnvEq e e'→K e m→K e' m) {i:Nat} {oi:Oper} (hi:ops[i]?=some oi) (A:Nat→Bool)
  (hA:∀ j oj,ops[j]?=some oj→A j=true→∃ d∈oj.after,Region.binds .any d=true∧(d.on=i∨A d.on=true)) :
  ∀ (f:Nat) (listed:Array Bool) (e:Env) (m:Mem),(∀ j,A j=true→listed.getD j true=false) →
   (∀ j oj,ops[j]?=some oj→j≠i→listed.getD j true=false→A j=false→oi.apart ops oj=true∧compat (opKind G oi.op) (opKind G oj.op)=true) →
   i∈Region.ready .any ops listed→aSt G ops oi e m (fun v m'=>aAny G ops K f (listed.setIfInBounds i true) (putE oi.dst v e) m')→aAny G ops K (f+1) listed e m:=by
 intro f
 induction f with
 | zero=>
  intro listed e m _ _ hr H
  refine ⟨fun h=>(by rw [h] at hr; cases hr),fun j hj=>?_⟩
  by_cases hji:j=i
  ·subst hji; unfold aAt; simp only [hi]; exact H
  ·have:=ready_mono hj hji
   obtain ⟨v,m',hh⟩:=aSt_strict hG H
   rw [hh.1] at this
   cases this
 | succ f ih=>
  intro listed e m hlist hfree hr H
  refine ⟨fun h=>(by rw [h] at hr; cases hr),fun j hj=>?_⟩
  by_cases hji:j=i
  ·subst hji; unfold aAt; simp only [hi]; exact H
  ·obtain ⟨hjun,oj,hoj,hall⟩:=mem_ready.1 hj
   have unl:∀ k,listed.getD k true=false→listed.getD k false=true→False:=fun k h0 h1=>by
    rcases Nat.lt_or_ge k listed.size with h' | h'
    ·simp [h'] at h0 h1; rw [h0] at h1; cases h1
    ·simp [Array.getElem?_eq_none h'] at h1
   have hnot:A j=false:=by
    cases hAj:A j with
    | false=>rfl
    | true=>
     obtain ⟨d,hd,hb,hon⟩:=hA j oj hoj hAj
     have h1:=hall d hd hb
     rcases hon with heq | heq
     ·rw [heq] at h1
      exact (unl i (mem_ready.1 hr).1 h1).elim
     ·exact (unl d.on (hlist d.on heq) h1).elim
   obtain ⟨hap,hco⟩:=hfree j oj hoj hji hjun hnot
   have h1:aSt G ops oi e m fun vi m1=>aSt G ops oj (putE oi.dst vi e) m1 fun vj m2=>aAny G ops K f ((listed.setIfInBounds i true).setIfInBounds j true) (putE oj.dst vj (putE oi.dst vi e)) m2:=
    aSt_mono (fun v m' hh=>by
     have:=hh.2 j (ready_mono hj hji)
     unfold aAt at this
     simpa only [hoj] using this) H
   have h2:=swap hG hap hco h1
   unfold aAt
   simp only [hoj]
   refine aSt_mono (fun vj m1 hh=>?_) h2
   refine ih (listed.setIfInBounds j true) (putE oj.dst vj e) m1 (fun k hk=>?_) (fun k ok hk hki hun hno=>?_) (ready_mono hr (Ne.symm hji)) (aSt_mono (fun vi m2 hh'=>?_) hh)
   ·have hjk:¬ j=k:=fun h=>by rw [← h,hnot] at hk; cases hk
    rw [getD_set_ne true hjk]
    exact hlist k hk
   ·refine hfree k ok hk hki ?_ hno
    by_cases hjk:j=k
    ·subst hjk; exact hjun
    ·rw [getD_set_ne true hjk] at hun; exact hun
   ·rw [Array.setIfInBounds_comm _ _ (Ne.symm hji)] at hh'
    exact aAny_resp hK f _ _ _ _ (put_comm (fun d hd hd'=>(Oper.apart_spec hap).2.1 d hd' hd) vj vi e) hh'

theorem freeK_spec {i:Nat} {oi:Oper} {listed:Array Bool} (hi:ops[i]?=some oi) (h:freeK G ops listed i=true):∃ A:Nat→Bool,
  (∀ j oj,ops[j]?=some oj→A j=true→∃ d∈oj.after,Region.binds .any d=true∧(d.on=i∨A d.on=true))∧(∀ j,A j=true→listed.getD j true=false) ∧
  (∀ j oj,ops[j]?=some oj→j≠i→listed.getD j true=false→A j=false→oi.apart ops oj=true∧compat (opKind G oi.op) (opKind G oj.op)=true):=by
 simp only [freeK,hi,freeA,List.all_eq_true,List.mem_range] at h
 generalize behind i ops.toList 0 0=M at h
 refine ⟨fun j=>Nat.blt j ops.size&&M.testBit j,fun j oj hj hAj=>?_,fun j hAj=>?_,fun j oj hj hne hun hAj=>?_⟩
 ·simp only [Bool.and_eq_true] at hAj
  have h1:=h j (Array.getElem?_eq_some_iff.1 hj).1
  simp only [hAj.2,hj,Bool.and_eq_true] at h1
  obtain ⟨d,hd,hb⟩:=Array.any_eq_true'.1 h1.2
  simp only [Bool.and_eq_true,Bool.or_eq_true] at hb
  refine ⟨d,hd,hb.1,?_⟩
  rcases hb.2 with hb | hb
  ·exact .inl (Nat.eq_of_beq_eq_true hb)
  ·exact .inr (by simpa using hb)
 ·simp only [Bool.and_eq_true] at hAj
  have h1:=h j (by simpa using hAj.1)
  simp only [hAj.2,Bool.and_eq_true,beq_iff_eq] at h1
  exact h1.1
 ·have hlt:=(Array.getElem?_eq_some_iff.1 hj).1
  have hb:Nat.blt j ops.size=true:=by simpa using hlt
  have hM:M.testBit j=false:=by simpa [hb] using hAj
  have h1:=h j hlt
  simp only [hM,hj,Bool.or_eq_true,beq_iff_eq,hne,false_or,hun,Bool.false_eq_true] at h1
  simpa using h1

theorem aAny_lex (hG:CfgOk G) {K:Env→Mem→Prop} (hK:∀ e e' m,EnvEq e e'→K e m→K e' m):∀ (l:List Oper) (k:Nat) (listed:Array Bool) (e:Env) (m:Mem),(∀ j,l[j]?=ops[k+j]?) →
  lexK G ops l.length k listed=true→aops G ops.toList l e m K→aAny G ops K l.length listed e m
 | [],_,_,_,_,_,hB,h=>⟨by simpa [lexK] using hB,h⟩
 | o::l,k,listed,e,m,hl,hB,h=>by
  have h0:ops[k]?=some o:=by simpa using (hl 0).symm
  simp only [List.length_cons,lexK,Bool.and_eq_true] at hB
  obtain ⟨⟨hr,hf⟩,hB'⟩:=hB
  have hl':∀ j,l[j]?=ops[k+1+j]?:=fun j=>by have:=hl (j+1); simpa [Nat.add_assoc,Nat.add_comm 1 j] using this
  obtain ⟨A,hA,h1,h2⟩:=freeK_spec h0 hf
  refine aAny_first hG hK h0 A hA l.length listed e m h1 h2 (by simpa using hr) ?_
  unfold aSt
  simp only [aops] at h
  split at h
  ·rename_i hw; first | (simp only [hw]; exact aop_mono (fun v m' hh=>aAny_lex hG hK l (k+1) _ _ _ hl' hB' hh) h) | exact aop_mono (fun v m' hh=>aAny_lex hG hK l (k+1) _ _ _ hl' hB' hh) h
  ·rename_i hw; first | (simp only [hw]; exact aAny_lex hG hK l (k+1) _ _ _ hl' hB' h) | exact aAny_lex hG hK l (k+1) _ _ _ hl' hB' h
  ·exact h.elim

end
end Go.Ev

namespace Go.Ev

section
variable {G:Cfg} {N:Nat}

theorem put_size (a:Act) (d:Option Tmp) (v:Value):(a.put d v).tmps.size=a.tmps.size:=by
 cases d<;>simp [Act.put]

theorem St.step {c c':Con} {m m':Mem} {e:Env} {a:Act} {w w':World} (h:St G N c m e a w) {o:Oper} (ho:dstOk N o=true) {v:TV} (hr:RelM G.W0 c' m' w') (hs:Since c m w c' m' w')
  (hv:v.closed m'.length=true):St G N c' m' (putE o.dst v e) (a.put o.dst (v.conc c')) w':=by
 refine ⟨hr,?_,by rw [put_size]; exact h.size⟩
 refine (h.fits.agree hs.agree hs.le).put (fun t ht=>?_) hv
 simp only [dstOk,ht,blt_lt] at ho
 exact Nat.lt_of_lt_of_le ho h.size

theorem wantedA_sound {ops:Array Oper} {c:Con} {n:Nat} {e:Env} {a:Act} (hf:Fits c n e a) {o:Oper} {b:Bool} (h:wantedA ops.toList o.guard e=some b) :
  Region.wanted o (yielded ops a.tmps)=b:=by
 unfold wantedA at h
 unfold Region.wanted
 cases hg:o.guard with
 | none=>simp only [hg] at h; simpa using h
 | some gw=>
  obtain ⟨j,want⟩:=gw
  simp only [hg] at h ⊢
  split at h
  ·rename_i oj ho
   split at h
   ·rename_i t ht
    split at h
    ·rename_i b' hb
     simp only [Option.some.injEq] at h
     have h1:=(hf.get t _ hb).1
     have ho':ops[j]?=some oj:=by simpa using ho
     have h2:a.tmps[t]?=some (.bool b'):=by
      cases hx:a.tmps[t]? with
      | none=>
       simp [hx,TV.conc,Sc.conc,undef] at h1
      | some x=>
       simp [hx,TV.conc,Sc.conc] at h1
       rw [h1]
     simp only [yielded,ho',Option.bind_some,ht,h2]
     rw [← h]
     cases b'<;>cases want<;>rfl
    ·rename_i hb
     simp only [Option.some.injEq] at h
     have h1:=(hf.get t _ hb).1
     have ho':ops[j]?=some oj:=by simpa using ho
     have h2:∀ b',a.tmps[t]?≠some (.bool b'):=by
      intro b' hx
      simp [hx,TV.conc] at h1
     have h3:yielded ops a.tmps j=none:=by
      simp only [yielded,ho',Option.bind_some,ht]
     rw [h3,← h]
     rfl
    ·cases h
   ·cases h
  ·cases h

theorem aops_sound (hG:CfgOk G) {all:Array Oper} {K:Env→Mem→Prop} {Q:Exit→Act→World→Prop}:∀ (l:List Oper) (e:Env) (m:Mem) (c:Con) (a:Act) (w:World),
  l.all (dstOk N)=true→aops G all.toList l e m K→St G N c m e a w →
  (∀ e' m' c' a' w',K e' m'→St G N c' m' e' a' w'→Since c m w c' m' w'→Q .normal a' w')→wpList G.P all Q l a w
 | [],e,m,c,a,w,_,h,hst,hQ=>hQ e m c a w h hst (Since.refl c m w)
 | o::l,e,m,c,a,w,hl,h,hst,hQ=>by
  simp only [List.all_cons,Bool.and_eq_true] at hl
  simp only [aops] at h
  unfold wpList
  split at h
  ·rename_i hw
   rw [if_pos (wantedA_sound hst.fits hw)]
   refine .inl (aop_sound hG hst.rel hst.fits h _ _ fun v m' c' w' hr hs hv hK=>?_)
   exact aops_sound hG l _ _ c' _ _ hl.2 hK (hst.step hl.1 hr hs hv) fun e' m'' c'' a' w'' hk hst' hs'=>hQ e' m'' c'' a' w'' hk hst' (hs.trans hs')
  ·rename_i hw
   rw [if_neg (by rw [wantedA_sound hst.fits hw]; simp)]
   exact aops_sound hG l _ _ c _ _ hl.2 h (hst.step (v:=.tup []) hl.1 hst.rel (Since.refl c m w) rfl) hQ
  ·exact h.elim

theorem aAny_sound (hG:CfgOk G) {ops:Array Oper} {K:Env→Mem→Prop} {Q:Exit→Act→World→Prop} (hops:∀ (i:Nat) (o:Oper),ops[i]?=some o→dstOk N o=true) :
  ∀ (f:Nat) (listed:Array Bool) (e:Env) (m:Mem) (c:Con) (a:Act) (w:World),aAny G ops K f listed e m→St G N c m e a w →
  (∀ e' m' c' a' w',K e' m'→St G N c' m' e' a' w'→Since c m w c' m' w'→Q .normal a' w')→wpAny G.P .any ops Q f listed a w
 | 0,listed,e,m,c,a,w,h,hst,hQ=>⟨h.1,hQ e m c a w h.2 hst (Since.refl c m w)⟩
 | f+1,listed,e,m,c,a,w,h,hst,hQ=>by
  refine ⟨fun h0=>hQ e m c a w (h.1 h0) hst (Since.refl c m w),fun i hi=>?_⟩
  have hh:=h.2 i hi
  unfold aAt at hh
  unfold wpOp
  split at hh
  ·rename_i ho
   simp only [ho]
   exact aAny_sound hG hops f _ _ _ c _ _ hh hst hQ
  ·rename_i o ho
   simp only [ho]
   unfold aSt at hh
   split at hh
   ·rename_i hw
    rw [if_pos (wantedA_sound hst.fits hw)]
    refine .inl (aop_sound hG hst.rel hst.fits hh _ _ fun v m' c' w' hr hs hv hK=>?_)
    exact aAny_sound hG hops f _ _ _ c' _ _ hK (hst.step (hops i o ho) hr hs hv) fun e' m'' c'' a' w'' hk hst' hs'=>hQ e' m'' c'' a' w'' hk hst' (hs.trans hs')
   ·rename_i hw
    rw [if_neg (by rw [wantedA_sound hst.fits hw]; simp)]
    exact aAny_sound hG hops f _ _ _ c _ _ hh (hst.step (v:=.tup []) (hops i o ho) hst.rel (Since.refl c m w) rfl) hQ
   ·exact hh.elim

theorem wp_loop_k {P:Program} {Q:Exit→Act→World→Prop} {c:Code} (I:Nat→Act→World→Prop) (h0:∀ a w,¬ I 0 a w)
  (round:∀ k a w,I (k+1) a w→c.wp P (Exit.then (fun a' w'=>I k a' w') Q) a w) {k:Nat} {a:Act} {w:World} (h:I k a w):(Code.loop c).wp P Q a w:=by
 intro b k₀ cs
 have key:∀ n a w,I n a w→∃ e a' w',Q e a' w'∧Arrives P (lone (b.at a (.code c::.inLoop c::k₀)) cs w) b k₀ cs e a' w':=by
  intro n
  induction n with
  | zero=>intro a w hI; exact absurd hI (h0 a w)
  | succ n ih=>
   intro a w hI
   obtain ⟨e,a₁,w₁,hq,harr⟩:=round n a w hI b (.inLoop c::k₀) cs
   cases e with
   | normal=>
    obtain ⟨e₂,a₂,w₂,hq₂,harr₂⟩:=ih a₁ w₁ hq
    exact ⟨e₂,a₂,w₂,hq₂,.of_steps (Steps.trans harr (.one step_inLoop)) harr₂⟩
   | exit id=>exact ⟨_,a₁,w₁,hq,.pass (x:=.inLoop c) rfl (fun _ _=>.inl (by simp)) harr⟩
   | goto l=>exact ⟨_,a₁,w₁,hq,.pass (x:=.inLoop c) rfl (fun _ _=>.inl (by simp)) harr⟩
   | ret=>exact ⟨_,a₁,w₁,hq,.pass (x:=.inLoop c) rfl (fun _ _=>.inl (by simp)) harr⟩
   | panic ch=>exact ⟨_,a₁,w₁,hq,.pass (x:=.inLoop c) rfl (fun _ _=>.inl (by simp)) harr⟩
   | outgrown=>exact ⟨_,a₁,w₁,hq,.pass (x:=.inLoop c) rfl (fun _ _=>.inl (by simp)) harr⟩
 obtain ⟨e,a',w',hq,harr⟩:=key k a w h
 exact ⟨e,a',w',hq,.of_steps (.one step_loop) harr⟩

theorem restr_sound {K:Env→Prop} {e:Env}:∀ (ts:List Nat) (acc:Env),(∀ t v,get acc t=some v→get e t=some v)→restr K e ts acc→∃ e',K e'∧∀ t v,get e' t=some v→get e t=some v
 | [],acc,hacc,h=>⟨acc,h,hacc⟩
 | t::ts,acc,hacc,h=>by
  simp only [restr] at h
  split at h
  ·rename_i v hv
   refine restr_sound ts ((t,v)::acc) (fun s u hs=>?_) h
   simp only [get] at hs
   split at hs
   ·rename_i hb
    have:=Nat.eq_of_beq_eq_true hb
    subst this
    simp only [Option.some.injEq] at hs
    subst hs; exact hv
   ·exact hacc s u hs
  ·exact restr_sound ts acc hacc h

theorem St.less {c:Con} {m:Mem} {e e':Env} {a:Act} {w:World} (h:St G N c m e a w) (hle:∀ t v,get e' t=some v→get e t=some v):St G N c m e' a w:=
 ⟨h.rel,⟨fun t v hv=>h.fits.get t v (hle t v hv),h.fits.defers⟩,h.size⟩

theorem swp_sound (hG:CfgOk G):∀ (cd:Code) (Q:Exit→Env→Mem→Prop) (e:Env) (m:Mem) (c:Con) (a:Act) (w:World),okCode G N cd=true→swp G cd Q e m→St G N c m e a w →
  cd.wp G.P (Post G N c m w Q) a w
 | .skip,Q,e,m,c,a,w,_,h,hst=>wp_skip ⟨e,m,c,h,hst,Since.refl c m w⟩
 | .label l,Q,e,m,c,a,w,_,h,hst=>wp_label ⟨e,m,c,h,hst,Since.refl c m w⟩
 | .exit id,Q,e,m,c,a,w,_,h,hst=>wp_exit ⟨e,m,c,h,hst,Since.refl c m w⟩
 | .ret,Q,e,m,c,a,w,_,h,hst=>wp_ret ⟨e,m,c,h,hst,Since.refl c m w⟩
 | .region id ops draw,Q,e,m,c,a,w,hk,h,hst=>by
  simp only [okCode] at hk
  split at hk
  ·rename_i hd
   cases draw with
   | false=>
    exact wp_region_list (aops_sound hG ops.toList e m c a w hd h hst fun e' m' c' a' w' hK hst' hs=>⟨e',m',c',hK,hst',hs⟩)
   | true=>
    simp only at hk
    refine wp_region_any hG.mixed ?_
    have hops:∀ (i:Nat) (o:Oper),ops[i]?=some o→dstOk N o=true:=fun i o ho=>List.all_eq_true.1 hd o (by simpa using Array.mem_of_getElem? ho)
    have hst':St G N c m e a { w with drawn:=w.drawn+1 }:=⟨hst.rel.drew,hst.fits,hst.size⟩
    have hlex:=aAny_lex (G:=G) (ops:=ops) hG (K:=fun e' m'=>∃ e'',EnvEq e' e''∧Q .normal e'' m') (fun e1 e2 m' he hh=>by
     obtain ⟨e'',h1,h2⟩:=hh; exact ⟨e'',fun t=>(he t).symm.trans (h1 t),h2⟩) ops.toList 0 (Array.replicate ops.size false) e m (by simp) (by simpa using hk) (by
      have mono:∀ (l:List Oper) (e:Env) (m:Mem),aops G ops.toList l e m (Q .normal)→aops G ops.toList l e m (fun e' m'=>∃ e'',EnvEq e' e''∧Q .normal e'' m'):=by
       intro l
       induction l with
       | nil=>intro e m hh; exact ⟨e,fun _=>rfl,hh⟩
       | cons o l ih=>
        intro e m hh
        simp only [aops] at hh ⊢
        split at hh
        ·exact aop_mono (fun v m' hx=>ih _ _ hx) hh
        ·exact ih _ _ hh
        ·exact hh
      exact mono ops.toList e m h)
    have:=aAny_sound hG (N:=N) hops _ _ _ _ c a _ hlex hst' (Q:=Post G N c m w Q) (fun e' m' c' a' w' hK hst'' hs=>by
     obtain ⟨e'',h1,h2⟩:=hK
     exact ⟨e'',m',c',h2,hst''.less (fun t v hv=>by rw [h1 t]; exact hv),(Since.drew c m w).trans hs⟩)
    simpa using this
  ·cases hk
 | .seq x y,Q,e,m,c,a,w,hk,h,hst=>by
  simp only [okCode] at hk
  split at hk
  ·rename_i hx
   refine wp_seq (wp_mono (swp_sound hG x _ e m c a w hx h hst) fun ex a' w' hp=>?_)
   obtain ⟨e',m',c',hq,hst',hs⟩:=hp
   cases ex with
   | normal=>
    refine wp_mono (swp_sound hG y _ e' m' c' a' w' hk hq hst') fun ex2 a2 w2 hp2=>?_
    obtain ⟨e2,m2,c2,hq2,hst2,hs2⟩:=hp2
    exact ⟨e2,m2,c2,hq2,hst2,hs.trans hs2⟩
   | _=>exact ⟨e',m',c',hq,hst',hs⟩
  ·cases hk
 | .cond cc x y,Q,e,m,c,a,w,hk,h,hst=>by
  simp only [okCode] at hk
  split at hk
  ·rename_i hx
   simp only [swp] at h
   split at h
   ·rename_i t ht
    have he:=(opv_sound hst.fits ht).1
    simp only [TV.conc,Sc.conc] at he
    split at h
    ·exact wp_cond_true he (swp_sound hG x Q e m c a w hx h hst)
    ·exact wp_cond_false he (swp_sound hG y Q e m c a w hk h hst)
   ·exact h.elim
  ·cases hk
 | .block id b,Q,e,m,c,a,w,hk,h,hst=>by
  simp only [okCode] at hk
  refine wp_block (wp_mono (swp_sound hG b _ e m c a w hk h hst) fun ex a' w' hp=>?_)
  obtain ⟨e',m',c',hq,hst',hs⟩:=hp
  cases ex with
  | exit i=>
   simp only [Exit.inBlock]
   by_cases hid:i=id
   ·subst hid
    simp only [if_true]
    have hb:Nat.beq i i=true:=by simp
    simp only [hb] at hq
    exact ⟨e',m',c',hq,hst',hs⟩
   ·have hb:Nat.beq i id=false:=by
     cases hb:Nat.beq i id with
     | false=>rfl
     | true=>exact absurd (Nat.eq_of_beq_eq_true hb) hid
    simp only [if_neg hid]
    simp only [hb] at hq
    exact ⟨e',m',c',hq,hst',hs⟩
  | _=>exact ⟨e',m',c',hq,hst',hs⟩
 | .loop b,Q,e,m,c,a,w,hk,h,hst=>by
  simp only [okCode] at hk
  simp only [swp] at h
  rcases h with ⟨k,h⟩ | h
  case inr=>exact h N c a w (by simpa only [okCode] using hk) hst
  refine wp_loop_k (fun k a' w'=>∃ e' m' c',loopN (swp G b) (dom e []) Q k e' m'∧St G N c' m' e' a' w'∧Since c m w c' m' w') (fun a' w' hh=>?_) (fun k a' w' hh=>?_) (k:=k) ⟨e,m,c,h,hst,Since.refl c m w⟩
  ·obtain ⟨e',m',c',hl,_⟩:=hh
   exact hl
  ·obtain ⟨e',m',c',hl,hst',hs⟩:=hh
   simp only [loopN] at hl
   refine wp_mono (swp_sound hG b _ e' m' c' a' w' hk hl hst') fun ex a2 w2 hp=>?_
   obtain ⟨e2,m2,c2,hq,hst2,hs2⟩:=hp
   cases ex with
   | normal=>
    obtain ⟨e3,h3,hle⟩:=restr_sound (dom e []) [] (fun t v hv=>by simp [get] at hv) hq
    exact ⟨e3,m2,c2,h3,hst2.less hle,hs.trans hs2⟩
   | _=>exact ⟨e2,m2,c2,hq,hst2,hs.trans hs2⟩
 | .rangeFunc ..,Q,e,m,c,a,w,_,h,hst=>h.elim
 | .scope ..,Q,e,m,c,a,w,_,h,hst=>h.elim
 | .goto ..,Q,e,m,c,a,w,_,h,hst=>h.elim
 | .refuse ..,Q,e,m,c,a,w,_,h,hst=>h.elim

structure Wk (L:Nat) (e:Env) (m:Mem) (e':Env) (m':Mem):Prop where
 env:∀ t v,get e' t=some v→get e t=some v∧v.closed m'.length=true
 mem:∀ b x,nth m' b=some x→nth m b=some x∧closedL m'.length x.cells=true
 le:m'.length≤m.length
 ge:L≤m'.length

theorem St.wk {L:Nat} {c:Con} {m m':Mem} {e e':Env} {a:Act} {w:World} (h:St G N c m e a w) (hw:Wk L e m e' m'):St G N c m' e' a w:=
 ⟨⟨fun b x hx=>h.rel.blk b x (hw.mem b x hx).1,fun b x hx=>(hw.mem b x hx).2,fun a b x y hx hy he=>h.rel.inj a b x y (hw.mem a x hx).1 (hw.mem b y hy).1 he,
  fun b hb=>h.rel.ge b (Nat.lt_of_lt_of_le hb hw.le),fun b hb=>h.rel.lt b (Nat.lt_of_lt_of_le hb hw.le),h.rel.ext,h.rel.size,h.rel.os,h.rel.tape,h.rel.output⟩,
  ⟨fun t v hv=>⟨(h.fits.get t v (hw.env t v hv).1).1,(hw.env t v hv).2⟩,h.fits.defers⟩,h.size⟩

theorem Since.wk {c c':Con} {m m1 m2:Mem} {w w':World} (h:Since c m w c' m1 w') (hsub:∀ b x,nth m2 b=some x→∃ y,nth m1 b=some y) (hge:m.length≤m2.length):Since c m w c' m2 w':=
 ⟨hge,h.agree,h.size,h.keep,fun b x hx h1=>by obtain ⟨y,hy⟩:=hsub b x hx; exact h.fresh b y hy h1,fun b x hx hb=>by obtain ⟨y,hy⟩:=hsub b x hx; exact h.live b y hy hb⟩

theorem loop_inv (hG:CfgOk G) {b:Code} {Q:Exit→Env→Mem→Prop} (I:Nat→Env→Mem→Prop) {e:Env} {m:Mem}
  (round:∀ k e' m',I k e' m'→swp G b (fun x e1 m1=>match x with
   | .normal=>∃ j e2 m2,j<k∧Wk m.length e1 m1 e2 m2∧I j e2 m2
   | x=>Q x e1 m1) e' m')
  (start:∃ k e' m',Wk m.length e m e' m'∧I k e' m'):SEM G (.loop b) Q e m:=by
 intro N c a w hk hst
 simp only [okCode] at hk
 obtain ⟨k,e0,m0,hw0,h0⟩:=start
 refine wp_loop_k (fun k a' w'=>∃ j e' m' c',j<k∧I j e' m'∧m.length≤m'.length∧St G N c' m' e' a' w'∧Since c m w c' m' w') (fun a' w' hh=>?_) (fun k a' w' hh=>?_) (k:=k+1)
  ⟨k,e0,m0,c,Nat.lt_succ_self k,h0,hw0.ge,hst.wk hw0,(Since.refl c m w).wk (fun b x hx=>⟨x,(hw0.mem b x hx).1⟩) hw0.ge⟩
 ·obtain ⟨j,e',m',c',hj,_⟩:=hh
  exact absurd hj (Nat.not_lt_zero j)
 ·obtain ⟨j,e',m',c',hj,hI,hge,hst',hs⟩:=hh
  refine wp_mono (swp_sound hG b _ e' m' c' a' w' hk (round j e' m' hI) hst') fun ex a2 w2 hp=>?_
  obtain ⟨e2,m2,c2,hq,hst2,hs2⟩:=hp
  cases ex with
  | normal=>
   obtain ⟨j',e3,m3,hj',hw,hI'⟩:=hq
   exact ⟨j',e3,m3,c2,by omega,hI',hw.ge,hst2.wk hw,(hs.trans hs2).wk (fun b x hx=>⟨x,(hw.mem b x hx).1⟩) hw.ge⟩
  | _=>exact ⟨e2,m2,c2,hq,hst2,hs.trans hs2⟩

end
end Go.Ev

namespace Go.Ev
section
variable {G:Cfg}

theorem enters_of {P : Program} {f : FuncId} {fn : Func} {cd : Code} (hf : P.funcs[f]? = some fn) (hb : fn.body = some cd) (hn : (fn.name == "runtime.NumGoroutine") = false) : Enters P f := by
 intro A w
 have hn' : ¬ fn.name = "runtime.NumGoroutine" := by simpa using hn
 simp [callFunc,hf,hb,hn']

def resV (tmps:Array Value):ResultVar→Sem Value
 | .tmp t=>pure (tmps.getD t undef)
 | .cell a t=>do loadVar t (← asAddr (tmps.getD a undef))

theorem ares_sound (hG:CfgOk G) {N:Nat} {c:Con} {m:Mem} {e:Env} {a:Act} {w:World} (hst:St G N c m e a w):∀ (rs:List ResultVar) (K:List TC→Prop),ares G rs e m K →
  ∃ l,K l∧(rs.mapM (resV a.tmps)).run G.P w=.ok (l.map (TC.conc c)) w∧∀ u∈l,u.closed m.length=true
 | [],K,h=>⟨[],h,by simp,by simp⟩
 | .tmp t::rs,K,h=>by
  simp only [ares] at h
  split at h
  ·rename_i v hv
   split at h
   ·rename_i u hu
    obtain ⟨h1,h2⟩:=hst.fits.get t v hv
    obtain ⟨l,hl,hrun,hcl⟩:=ares_sound hG hst rs _ h
    refine ⟨u::l,hl,?_,?_⟩
    ·rw [List.mapM_cons]
     simp only [Sem.run_bind,resV,Sem.run_pure,Result.andThen_ok,hrun,h1,List.map_cons,TV.tc_conc hu]
    ·simp only [List.mem_cons,forall_eq_or_imp]
     exact ⟨by rw [TV.tc_closed hu]; exact h2,hcl⟩
   ·exact h.elim
  ·exact h.elim
 | .cell t ty::rs,K,h=>by
  simp only [ares] at h
  split at h
  ·rename_i v hv
   obtain ⟨h1,h2⟩:=hst.fits.get t v hv
   obtain ⟨p,u,hp,hrun,hu,hK⟩:=aload_run hG hst.rel h2 h
   split at hK
   ·rename_i uc huc
    obtain ⟨l,hl,hrun',hcl⟩:=ares_sound hG hst rs _ hK
    refine ⟨uc::l,hl,?_,?_⟩
    ·rw [List.mapM_cons]
     simp only [Sem.run_bind,resV,h1,hp,asAddr,Sem.run_pure,Result.andThen_ok,hrun,hrun',List.map_cons,TV.tc_conc huc]
    ·simp only [List.mem_cons,forall_eq_or_imp]
     exact ⟨by rw [TV.tc_closed huc]; exact hu,hcl⟩
   ·exact hK.elim
  ·exact h.elim

theorem results_run {fn:Func} {tmps:Array Value} {c:Con} {w:World} {l:List TC} (h:(fn.results.toList.mapM (resV tmps)).run G.P w=.ok (l.map (TC.conc c)) w) :
  (results fn tmps).run G.P w=.ok ((outV l).conc c) w:=by
 have h1:(fn.results.mapM (resV tmps)).run G.P w=.ok (l.map (TC.conc c)).toArray w:=by
  rw [Array.mapM_eq_mapM_toList]
  simp only [Sem.run_map,h,Result.andThen_ok]
 have h2:results fn tmps=(do
   let vs ← fn.results.mapM (resV tmps)
   pure (if h:vs.size=1 then vs[0] else .tuple vs)):=by
  unfold results
  congr 1
 rw [h2]
 simp only [Sem.run_bind,h1,Result.andThen_ok,Sem.run_pure]
 congr 1
 match l with
 | []=>simp [outV,TV.conc]
 | [u]=>simp [outV,TC.tv_conc]
 | u::v::l=>simp [outV,TV.conc]

theorem outV_closed {n:Nat} {l:List TC} (h:∀ u∈l,u.closed n=true):(outV l).closed n=true:=by
 match l with
 | []=>rfl
 | [u]=>rw [outV,TC.tv_closed]; exact h u (by simp)
 | u::v::l=>exact closedT_iff.2 h

theorem ienv_get:∀ (args:List TV) (k t:Nat) (v:TV),get (ienv k args) t=some v→∃ j,t=k+j∧args[j]?=some v
 | [],k,t,v,h=>by simp [ienv,get] at h
 | u::args,k,t,v,h=>by
  simp only [ienv,get] at h
  split at h
  ·rename_i hb
   have:=Nat.eq_of_beq_eq_true hb
   subst this
   exact ⟨0,rfl,by simpa using h⟩
  ·obtain ⟨j,rfl,hj⟩:=ienv_get args (k+1) t v h
   exact ⟨j+1,by omega,by simpa using hj⟩

theorem call_of_swp (hG:CfgOk G) {f:FuncId} {fn:Func} {cd:Code} {args:List TV} {m:Mem} {K:TV→Mem→Prop} (hf:G.P.funcs[f]?=some fn) (hb:fn.body=some cd)
  (hn : (fn.name == "runtime.NumGoroutine") = false) (hk : okCode G fn.ntmps cd = true) (h : swp G cd (post G fn.results K) (ienv 0 args) m) : CALL G.P G.W0 f args m K := by
 refine ⟨enters_of hf hb hn,fun c w hr hcl=>?_⟩
 refine calls_of_wp hf hb ?_
 have hst:St G fn.ntmps c m (ienv 0 args) { tmps:=(args.map (TV.conc c)).toArray++Array.replicate (fn.ntmps-(args.map (TV.conc c)).toArray.size) undef,defers:=[] } w:=by
  refine ⟨hr,⟨fun t v hv=>?_,rfl⟩,by simp; omega⟩
  obtain ⟨j,rfl,hj⟩:=ienv_get args 0 t v hv
  simp only [Nat.zero_add]
  have hlt:j<args.length:=(List.getElem?_eq_some_iff.1 hj).1
  have hv':args[j]=v:=(List.getElem?_eq_some_iff.1 hj).2
  refine ⟨?_,hcl v (List.mem_of_getElem? hj)⟩
  simp [Array.getElem?_append,hlt,hv']
 refine wp_mono (swp_sound hG cd _ _ m c _ w hk h hst) fun x a' w' hp=>?_
 obtain ⟨e',m',c',hq,hst',hs⟩:=hp
 have fin:ares G fn.results.toList e' m' (fun l=>K (outV l) m')→a'.defers=[]∧∃ v,(results fn a'.tmps).run G.P w'=.ok v w' ∧
   (∃ v_1 m' c',Ending.returned v=Ending.returned (TV.conc c' v_1)∧RelM G.W0 c' m' w'∧Since c m w c' m' w'∧TV.closed m'.length v_1=true∧K v_1 m'):=fun hh=>by
  obtain ⟨l,hl,hrun,hcl'⟩:=ares_sound hG hst' _ _ hh
  exact ⟨hst'.fits.defers,_,results_run hrun,outV l,m',c',rfl,hst'.rel,hs,outV_closed hcl',hl⟩
 cases x with
 | normal=>exact fin hq
 | ret=>exact fin hq
 | _=>exact hq.elim

theorem CALL.mono {P:Program} {W0:World} {f:FuncId} {args:List TV} {m:Mem} {K K':TV→Mem→Prop} (h:CALL P W0 f args m K) (hk:∀ v m',K v m'→K' v m'):CALL P W0 f args m K':=
 ⟨h.1,fun c w hr hcl=>(h.2 c w hr hcl).mono fun _ _ ⟨v,m',c',h1,h2,h3,h4,h5⟩=>⟨v,m',c',h1,h2,h3,h4,hk v m' h5⟩⟩

theorem fn_of_empty {P:Program} {f:FuncId} {args:List TV} {v:TV} (hv:v.closed 0=true) (hargs:∀ u∈args,u.closed 0=true)
  (h:∀ W0,CALL P W0 f args [] fun v' _=>v'=v) (W0:World) (m:Mem):CALL P W0 f args m fun v' m'=>v'=v∧m'=m:=by
 refine ⟨(h W0).1,fun c w hr hcl=>?_⟩
 have hr0:RelM w c [] w:=⟨fun b x hx=>by simp [nth] at hx,fun b x hx=>by simp [nth] at hx,fun b d x y hx=>by simp [nth] at hx,fun b hb=>by simp at hb,
  fun b hb=>by simp at hb,fun _ _=>rfl,Nat.le_refl _,rfl,rfl,rfl⟩
 refine ((h w).2 c w hr0 (fun u hu=>hargs u hu)).mono fun e w' hh=>?_
 obtain ⟨v',m',c',h1,h2,h3,h4,h5⟩:=hh
 subst h5
 have agree0:Agree 0 c' c:=fun b hb=>absurd hb (Nat.not_lt_zero b)
 have keep:∀ r,r<w.heap.size→w'.heap[r]?=w.heap[r]?:=fun r hr'=>h2.ext r hr'
 refine ⟨v',m,c,by rw [h1,TV.conc_agree agree0 hv],?_,⟨Nat.le_refl _,fun _ _=>⟨rfl,rfl⟩,h2.size,fun r hr' _=>keep r hr',fun b x h6 h7=>absurd (nth_lt h6) (by omega),fun b x h6 _=>⟨x,h6⟩⟩,TV.closed_mono (Nat.zero_le _) hv,rfl,rfl⟩
 refine ⟨fun b x hx=>?_,hr.cl,hr.inj,hr.ge,fun b hb=>?_,fun r hr'=>?_,Nat.le_trans hr.size h2.size,h2.os.trans hr.os,h2.tape.trans hr.tape,h2.output.trans hr.output⟩
 ·obtain ⟨junk,k1,k2⟩:=hr.blk b x hx
  exact ⟨junk,by rw [keep _ (hr.lt b (nth_lt hx))]; exact k1,k2⟩
 ·exact Nat.lt_of_lt_of_le (hr.lt b hb) h2.size
 ·rw [keep r (Nat.lt_of_lt_of_le hr' hr.size)]; exact hr.ext r hr'

def Fn (P:Program) (f:FuncId) (args:List TV) (v:TV):Prop:=v.closed 0=true∧∀ W0 m,CALL P W0 f args m fun v' m'=>v'=v∧m'=m

def WkE (e:Env) (n:Nat):Env→Prop
 | []=>True
 | (t,v)::r=>(get e t=some v∧v.closed n=true)∧WkE e n r

def WkM (m:Mem) (n:Nat):Nat→Mem→Prop
 | _,[]=>True
 | b,none::r=>WkM m n (b+1) r
 | b,some x::r=>(nth m b=some x∧closedL n x.cells=true)∧WkM m n (b+1) r

theorem WkE.get {e:Env} {n:Nat}:∀ {e':Env},WkE e n e'→∀ t v,Ev.get e' t=some v→Ev.get e t=some v∧v.closed n=true
 | [],_,t,v,h=>by simp [Ev.get] at h
 | (s,u)::r,hw,t,v,h=>by
  simp only [Ev.get] at h
  split at h
  ·rename_i hb
   have:=Nat.eq_of_beq_eq_true hb
   subst this
   simp only [Option.some.injEq] at h
   subst h; exact hw.1
  ·exact WkE.get hw.2 t v h

theorem WkM.nth {m:Mem} {n:Nat}:∀ {m':Mem} {k:Nat},WkM m n k m'→∀ b x,Ev.nth m' b=some x→Ev.nth m (k+b)=some x∧closedL n x.cells=true
 | [],k,_,b,x,h=>by simp [Ev.nth] at h
 | none::r,k,hw,b,x,h=>by
  cases b with
  | zero=>simp [Ev.nth] at h
  | succ b=>
   have:=WkM.nth (k:=k+1) hw b x h
   rwa [show k+1+b=k+(b+1) by omega] at this
 | some y::r,k,hw,b,x,h=>by
  cases b with
  | zero=>
   simp only [Ev.nth,Option.some.injEq] at h
   subst h; exact hw.1
  | succ b=>
   have:=WkM.nth (k:=k+1) hw.2 b x h
   rwa [show k+1+b=k+(b+1) by omega] at this

theorem wk_of {L:Nat} {e e':Env} {m m':Mem} (h1:WkE e m'.length e') (h2:WkM m m'.length 0 m') (h3:m'.length≤m.length) (h4:L≤m'.length):Wk L e m e' m':=
 ⟨h1.get,fun b x hx=>by have:=h2.nth b x hx; rwa [Nat.zero_add] at this,h3,h4⟩

end
end Go.Ev

namespace Go.Ev
section
variable {P:Program}

def rep (l:List (Option IntKind)):Nat→List (Option IntKind)
 | 0=>[]
 | n+1=>l++rep l n

def structLeaves (P:Program) (lv:TypeId→Option (List (Option IntKind))):List Field→Nat→Option (List (Option IntKind))
 | [],_=>some []
 | f :: fs, off => match Nat.beq f.offset off && (f.name != "_") && (P.info? f.type).isSome with
  | true=>match lv f.type with
   | some l=>match Nat.beq l.length (P.cellsOf f.type) with
    | true=>match structLeaves P lv fs (off+l.length) with
     | some r=>some (l++r)
     | none=>none
    | false=>none
   | none=>none
  | false=>none

def leaves (P:Program):Nat→TypeId→Option (List (Option IntKind))
 | 0,_=>none
 | d+1,t=>match P.underlying t with
  | some (.int k)=>some [some k]
  | some .bool=>some [none]
  | some (.array n e)=>match leaves P d e,(P.info? e).isSome with
   | some l,true=>match Nat.beq l.length (P.cellsOf e) with
    | true=>some (rep l n)
    | false=>none
   | _,_=>none
  | some (.struct fs)=>match P.stoodInHeld t with
   | true=>none
   | false=>structLeaves P (leaves P d) fs.toList 0
  | _=>none

def Kinded:List (Option IntKind)→List Value→Prop
 | [],[]=>True
 | some k::ks,.int k' _::vs=>k'=k∧Kinded ks vs
 | none::ks,.bool _::vs=>Kinded ks vs
 | _,_=>False

def beqV:Value→Value→Bool
 | .int _ a,.int _ b=>a==b
 | .bool a,.bool b=>a==b
 | _,_=>false

def beqs:List Value→List Value→Bool
 | [],[]=>true
 | x::xs,y::ys=>beqV x y&&beqs xs ys
 | _,_=>false

theorem Kinded.length:∀ {ks:List (Option IntKind)} {vs:List Value},Kinded ks vs→ks.length=vs.length
 | [],[],_=>rfl
 | some _::ks,.int _ _::vs,h=>by simp [Kinded.length h.2]
 | none::ks,.bool _::vs,h=>by simp [Kinded.length (ks:=ks) (vs:=vs) h]

theorem Kinded.split:∀ {ks ls:List (Option IntKind)} {vs:List Value},Kinded (ks++ls) vs→∃ v1 v2,vs=v1++v2∧Kinded ks v1∧Kinded ls v2
 | [],ls,vs,h=>⟨[],vs,rfl,trivial,h⟩
 | some k::ks,ls,.int k' n::vs,h=>by
  obtain ⟨v1,v2,rfl,h1,h2⟩:=Kinded.split (ks:=ks) (ls:=ls) h.2
  exact ⟨.int k' n::v1,v2,rfl,⟨h.1,h1⟩,h2⟩
 | none::ks,ls,.bool b::vs,h=>by
  obtain ⟨v1,v2,rfl,h1,h2⟩:=Kinded.split (ks:=ks) (ls:=ls) (vs:=vs) h
  exact ⟨.bool b::v1,v2,rfl,h1,h2⟩

theorem beqs_append:∀ {a b c d:List Value},a.length=b.length→beqs (a++c) (b++d)=(beqs a b&&beqs c d)
 | [],[],c,d,_=>by simp [beqs]
 | x::a,y::b,c,d,h=>by simp [beqs,beqs_append (a:=a) (b:=b) (by simpa using h),Bool.and_assoc]

def asV (P:Program) (t:TypeId) (vs:List Value):Value:=
 match isAggB P t with
 | true=>.agg vs.toArray
 | false=>vs.headD undef

theorem run_part_asV {e:TypeId} {vs pre suf:List Value} (hu:(P.underlying e).isSome=true) (hi:(P.info? e).isSome=true) (hl:vs.length=P.cellsOf e) (h1:isAggB P e=false→∃ v,vs=[v]) (w:World) :
  (part e (pre++vs++suf).toArray pre.length).run P w=.ok (asV P e vs) w:=by
 simp only [part,Sem.run_bind,r_isAgg hu,Result.andThen_ok]
 unfold asV
 cases hag:isAggB P e with
 | true=>
  simp only [if_true,Sem.run_bind,r_sizeOf hi,Result.andThen_ok,Sem.run_pure]
  rw [take_extract]
  congr 3
  rw [← hl]
  simp
 | false=>
  obtain ⟨v,rfl⟩:=h1 hag
  simp

theorem leaves_some {d:Nat} {t:TypeId} {ks:List (Option IntKind)} (h:leaves P d t=some ks):(P.underlying t).isSome=true∧(isAggB P t=false→ks.length=1):=by
 cases d with
 | zero=>simp [leaves] at h
 | succ d=>
  unfold leaves at h
  cases hu:P.underlying t with
  | none=>simp [hu] at h
  | some u=>
   refine ⟨rfl,fun hag=>?_⟩
   unfold isAggB at hag
   rw [hu] at h hag
   cases u<;>simp at h hag<;>(subst h; rfl)

theorem eq_items {e:TypeId} {d:Nat} {l:List (Option IntKind)} (hi:(P.info? e).isSome=true) (hu:(P.underlying e).isSome=true) (h1:isAggB P e=false→l.length=1) (hl:l.length=P.cellsOf e)
  (ih:∀ (w:World) (xs ys:List Value),Kinded l xs→Kinded l ys→(Op.equalIn d e (asV P e xs) (asV P e ys)).run P w=.ok (beqs xs ys) w) :
  ∀ (n k:Nat) (px py xs ys:List Value) (w:World),px.length=k*P.cellsOf e→py.length=k*P.cellsOf e→Kinded (rep l n) xs→Kinded (rep l n) ys →
   (Op.eqItems d e (P.cellsOf e) (px++xs).toArray (py++ys).toArray (List.range' k n)).run P w=.ok (beqs xs ys) w
 | 0,k,px,py,xs,ys,w,_,_,hx,hy=>by
  cases xs with
  | nil=>cases ys with
   | nil=>simp [Op.eqItems,beqs]
   | cons y ys=>exact hy.elim
  | cons x xs=>exact hx.elim
 | n+1,k,px,py,xs,ys,w,hpx,hpy,hx,hy=>by
  obtain ⟨x1,x2,rfl,hx1,hx2⟩:=Kinded.split hx
  obtain ⟨y1,y2,rfl,hy1,hy2⟩:=Kinded.split hy
  have one:∀ {vs:List Value},Kinded l vs→isAggB P e=false→∃ v,vs=[v]:=fun {vs} hv hag=>by
   have:=hv.length
   rw [h1 hag] at this
   exact List.length_eq_one_iff.1 this.symm
  have ex:=run_part_asV (P:=P) (pre:=px) (suf:=x2) hu hi (hx1.length.symm.trans hl) (one hx1) w
  have ey:=run_part_asV (P:=P) (pre:=py) (suf:=y2) hu hi (hy1.length.symm.trans hl) (one hy1) w
  rw [hpx] at ex
  rw [hpy] at ey
  have hrec:=eq_items hi hu h1 hl ih n (k+1) (px++x1) (py++y1) x2 y2 w (by simp [hpx,← hx1.length,hl,Nat.add_mul]) (by simp [hpy,← hy1.length,hl,Nat.add_mul]) hx2 hy2
  rw [List.range'_succ]
  simp only [Op.eqItems,Sem.run_bind,← List.append_assoc,ex,ey,Result.andThen_ok,ih w x1 y1 hx1 hy1]
  rw [beqs_append (hx1.length.symm.trans hy1.length)]
  cases beqs x1 y1
  ·simp
  ·simpa using hrec

theorem eq_fields {d D:Nat} (ih:∀ (t:TypeId) (ks:List (Option IntKind)),leaves P D t=some ks→∀ (w:World) (xs ys:List Value),Kinded ks xs→Kinded ks ys→(Op.equalIn d t (asV P t xs) (asV P t ys)).run P w=.ok (beqs xs ys) w) :
  ∀ (fs:List Field) (off:Nat) (ks:List (Option IntKind)) (px py xs ys:List Value) (w:World),structLeaves P (leaves P D) fs off=some ks→px.length=off→py.length=off→Kinded ks xs→Kinded ks ys →
   (Op.eqFields d (px++xs).toArray (py++ys).toArray fs).run P w=.ok (beqs xs ys) w
 | [],off,ks,px,py,xs,ys,w,h,_,_,hx,hy=>by
  simp [structLeaves] at h
  subst h
  cases xs with
  | nil=>cases ys with
   | nil=>simp [Op.eqFields,beqs]
   | cons y ys=>exact hy.elim
  | cons x xs=>exact hx.elim
 | f::fs,off,ks,px,py,xs,ys,w,h,hpx,hpy,hx,hy=>by
  simp only [structLeaves] at h
  split at h
  ·rename_i hc
   simp only [Bool.and_eq_true] at hc
   obtain ⟨⟨hoff,hname⟩,hi⟩:=hc
   have hoff:=Nat.eq_of_beq_eq_true hoff
   split at h
   ·rename_i l hl
    split at h
    ·rename_i hlen
     have hlen:=Nat.eq_of_beq_eq_true hlen
     split at h
     ·rename_i r hr
      simp only [Option.some.injEq] at h
      subst h
      obtain ⟨x1,x2,rfl,hx1,hx2⟩:=Kinded.split hx
      obtain ⟨y1,y2,rfl,hy1,hy2⟩:=Kinded.split hy
      obtain ⟨hu,h1⟩:=leaves_some hl
      have one:∀ {vs:List Value},Kinded l vs→isAggB P f.type=false→∃ v,vs=[v]:=fun {vs} hv hag=>by
       have:=hv.length
       rw [h1 hag] at this
       exact List.length_eq_one_iff.1 this.symm
      have ex:=run_part_asV (P:=P) (pre:=px) (suf:=x2) hu hi (hx1.length.symm.trans hlen) (one hx1) w
      have ey:=run_part_asV (P:=P) (pre:=py) (suf:=y2) hu hi (hy1.length.symm.trans hlen) (one hy1) w
      rw [hpx,← hoff] at ex
      rw [hpy,← hoff] at ey
      have hrec:=eq_fields ih fs (off+l.length) r (px++x1) (py++y1) x2 y2 w hr (by simp [hpx,← hx1.length]) (by simp [hpy,← hy1.length]) hx2 hy2
      have hname' : f.name ≠ "_" := by simpa using hname
      simp only [Op.eqFields,hname',ne_eq,not_false_eq_true,if_true,Sem.run_bind,← List.append_assoc,ex,ey,Result.andThen_ok,ih f.type l hl w x1 y1 hx1 hy1]
      rw [beqs_append (hx1.length.symm.trans hy1.length)]
      cases beqs x1 y1
      ·simp
      ·simpa using hrec
     ·cases h
    ·cases h
   ·cases h
  ·cases h

theorem eq_leaves:∀ (D d:Nat) (t:TypeId) (ks:List (Option IntKind)),leaves P D t=some ks→∀ (w:World) (xs ys:List Value),Kinded ks xs→Kinded ks ys →
  (Op.equalIn (d+D) t (asV P t xs) (asV P t ys)).run P w=.ok (beqs xs ys) w
 | 0,d,t,ks,h,_,_,_,_,_=>by simp [leaves] at h
 | D+1,d,t,ks,h,w,xs,ys,hx,hy=>by
  have ih:=eq_leaves D d
  unfold leaves at h
  split at h
  ·rename_i k hu
   simp only [Option.some.injEq] at h
   subst h
   have hag:isAggB P t=false:=by simp [isAggB,hu]
   match xs,ys,hx,hy with
   | [.int k' a],[.int k'' b],hx,hy=>
    obtain ⟨rfl,_⟩:=hx
    obtain ⟨rfl,_⟩:=hy
    simp only [asV,hag,List.headD_cons]
    rw [← Nat.add_assoc,run_equalIn_int w _ t _ _ a b hu]
    simp [beqs,beqV]
  ·rename_i hu
   simp only [Option.some.injEq] at h
   subst h
   have hag:isAggB P t=false:=by simp [isAggB,hu]
   match xs,ys,hx,hy with
   | [.bool a],[.bool b],hx,hy=>
    simp only [asV,hag,List.headD_cons]
    rw [← Nat.add_assoc,run_equalIn_bool w _ t a b hu]
    simp [beqs,beqV]
  ·rename_i n e hu
   have hag:isAggB P t=true:=by simp [isAggB,hu]
   split at h
   ·rename_i l hl hi
    split at h
    ·rename_i hlen
     have hlen:=Nat.eq_of_beq_eq_true hlen
     simp only [Option.some.injEq] at h
     subst h
     obtain ⟨hue,h1⟩:=leaves_some hl
     obtain ⟨i,hi'⟩:=Option.isSome_iff_exists.1 hi
     simp only [asV,hag]
     rw [← Nat.add_assoc,run_equalIn_array w _ _ _ hu hi',List.range_eq_range']
     exact eq_items (d:=d+D) hi hue h1 hlen (fun w xs ys hx hy=>ih e l hl w xs ys hx hy) n 0 [] [] xs ys w (by simp) (by simp) hx hy
    ·cases h
   ·cases h
  ·rename_i fs hu
   have hag:isAggB P t=true:=by simp [isAggB,hu]
   split at h
   ·cases h
   ·rename_i hst
    simp only [asV,hag]
    have hf:P.fieldsOf t=fs:=by simp [Program.fieldsOf,hu]
    rw [← Nat.add_assoc,run_equalIn_struct w _ t _ _ (by rw [hf]; exact hu) hst,hf]
    exact eq_fields (d:=d+D) (D:=D) (fun t ks ht w xs ys hx hy=>ih t ks ht w xs ys hx hy) fs.toList 0 ks [] [] xs ys w h rfl rfl hx hy
  ·cases h

def kindOf:Sc→Option (Option IntKind)
 | .int k _=>some (some k)
 | .bool _=>some none
 | _=>none

theorem eqCells_spec (c:Con):∀ {z xs ys:List Sc} {b:Bool},eqCells z xs ys=some b→∃ ks,z.map kindOf=ks.map some∧Kinded ks (xs.map (Sc.conc c))∧Kinded ks (ys.map (Sc.conc c))∧beqs (xs.map (Sc.conc c)) (ys.map (Sc.conc c))=b
 | [],[],[],b,h=>by simp [eqCells] at h; subst h; exact ⟨[],rfl,trivial,trivial,rfl⟩
 | .int k _::z,.int k' x::xs,.int k'' y::ys,b,h=>by
  simp only [eqCells] at h
  split at h
  ·rename_i h1 h2
   have h1:=kEq_iff.1 h1
   have h2:=kEq_iff.1 h2
   subst h1; subst h2
   split at h
   ·rename_i r hr
    simp only [Option.some.injEq] at h
    subst h
    obtain ⟨ks,e1,e2,e3,e4⟩:=eqCells_spec c hr
    exact ⟨some _::ks,by simp [kindOf,e1],⟨rfl,e2⟩,⟨rfl,e3⟩,by simp [beqs,beqV,Sc.conc,e4]⟩
   ·cases h
  ·cases h
 | .bool _::z,.bool x::xs,.bool y::ys,b,h=>by
  simp only [eqCells] at h
  split at h
  ·rename_i r hr
   simp only [Option.some.injEq] at h
   subst h
   obtain ⟨ks,e1,e2,e3,e4⟩:=eqCells_spec c hr
   exact ⟨none::ks,by simp [kindOf,e1],e2,e3,by simp [beqs,beqV,Sc.conc,e4]⟩
  ·cases h

theorem map_some_inj {α:Type}:∀ {a b:List α},a.map some=b.map some→a=b
 | [],[],_=>rfl
 | x::a,y::b,h=>by
  simp only [List.map_cons,List.cons.injEq,Option.some.injEq] at h
  rw [h.1,map_some_inj h.2]

theorem eqRow_of {t:TypeId} {z:List Sc} {ks:List (Option IntKind)} {D:Nat} (hD:D≤10000) (hl:leaves P D t=some ks) (hz:z.map kindOf=ks.map some) (hg:P.eqGuardType P.depth t=false) (hag:isAggB P t=true):EqRow P t z:=by
 refine ⟨hg,fun xs ys b c w h=>?_⟩
 obtain ⟨ks',e1,e2,e3,e4⟩:=eqCells_spec c h
 have:ks'=ks:=map_some_inj (e1.symm.trans hz)
 subst this
 have:=eq_leaves D (10000-D) t _ hl w _ _ e2 e3
 rw [Nat.sub_add_cancel hD] at this
 simp only [asV,hag] at this
 rw [e4] at this
 exact this

end
end Go.Ev

namespace Go.Ev
section
variable {P:Program} {W0:World} {f:FuncId} {fn:Func}

theorem callFunc_ext {ext : Array Value → Sem Value} (hf : P.funcs[f]? = some fn) (hb : fn.body = none) (hn : (fn.name == "runtime.NumGoroutine") = false)
  (h1:Extern.findNext fn=none) (h2:Extern.find fn=some ext) (A:Array Value) (w:World) {v:Value} (hv:(ext A).run P w=.ok v w):(callFunc f A).run P w=.ok (.value v) w:=by
 have hn' : ¬ fn.name = "runtime.NumGoroutine" := by simpa using hn
 simp [callFunc,hf,hb,hn',h1,h2,hv]

theorem run_three {x y c:Int} (hc:c≤1) (nm:String) (w:World) :
  (Extern.MathBitsCarry.three nm #[.int .u64 x,.int .u64 y,.int .u64 c]).run P w=.ok (x.toNat,y.toNat,c.toNat) w:=by
 have:¬ (c.toNat > 1):=by omega
 have e:Extern.MathBitsCarry.three nm #[.int .u64 x,.int .u64 y,.int .u64 c]=(do
   let c:=(← asInt (.int .u64 c)).toNat
   if c > 1 then unsupported (.noEntry ("extern/math/bits." ++ nm ++ ": a carry that is neither 0 nor 1"))
   pure ((← asInt (.int .u64 x)).toNat,(← asInt (.int .u64 y)).toNat,c)):=rfl
 rw [e]
 have a1:∀ (n:Int) (w:World),(asInt (.int .u64 n)).run P w=.ok n w:=fun n w=>by simp [asInt,asIntOf]
 simp only [Sem.run_bind,a1,Result.andThen_ok,Sem.run_ite,if_neg this,Sem.run_pure]

theorem primOk_add64 (hf : P.funcs[f]? = some fn) (hb : fn.body = none) (hn : (fn.name == "runtime.NumGoroutine") = false)
  (h1:Extern.findNext fn=none) (h2:Extern.find fn=(Extern.MathBitsCarry.rows[0]?).map (·.2)):PrimOk P W0 f .add64:=by
 intro args K hK
 unfold primC at hK
 split at hK
 ·rename_i x y c _
  obtain ⟨⟨hx,hy,hc0,hc1⟩,hK⟩:=hK
  have e:((x.toNat+y.toNat+c.toNat)%18446744073709551616:Nat)+18446744073709551616*(((x.toNat+y.toNat+c.toNat)/18446744073709551616:Nat):Int)=x+y+c:=by omega
  have huniq:∀ s t:Int,s+18446744073709551616*t=x+y+c→0≤s→s<18446744073709551616→0≤t →
    s=((x.toNat+y.toNat+c.toNat)%18446744073709551616:Nat)∧t=((x.toNat+y.toNat+c.toNat)/18446744073709551616:Nat):=fun s t h1 h2 h3 h4=>by omega
  refine ⟨_,hK _ _ e (by omega) (by omega) (by omega),fun K' hK'=>?_,fun n=>rfl,.inl fun c' w=>?_⟩
  ·unfold primC
   refine ⟨⟨hx,hy,hc0,hc1⟩,fun s t h1 h2 h3 h4=>?_⟩
   obtain ⟨rfl,rfl⟩:=huniq s t h1 h2 h3 h4
   exact hK'
  ·refine callFunc_ext hf hb hn h1 h2 _ w ?_
   simp only [List.map_cons,List.map_nil,TV.conc,Sc.conc]
   simp [run_three hc1,Extern.MathBitsCarry.pair,Extern.MathBitsCarry.m64,TC.conc,Sc.conc]
 ·rename_i heq; cases heq
 ·rename_i heq; cases heq
 ·exact hK.elim

theorem primOk_sub64 (hf : P.funcs[f]? = some fn) (hb : fn.body = none) (hn : (fn.name == "runtime.NumGoroutine") = false)
  (h1:Extern.findNext fn=none) (h2:Extern.find fn=(Extern.MathBitsCarry.rows[1]?).map (·.2)):PrimOk P W0 f .sub64:=by
 intro args K hK
 unfold primC at hK
 split at hK
 ·rename_i heq; cases heq
 ·rename_i x y c _
  obtain ⟨⟨hx,hx1,hy,hy1,hc0,hc1⟩,hK⟩:=hK
  have huniq:∀ s t:Int,s-18446744073709551616*t=x-y-c→0≤s→s<18446744073709551616→0≤t→t≤1 →
    s=((x.toNat+18446744073709551616-y.toNat-c.toNat)%18446744073709551616:Nat)∧t=((if x.toNat<y.toNat+c.toNat then 1 else 0:Nat):Int):=fun s t h1 h2 h3 h4 h5=>by
   split<;>omega
  have e:(((x.toNat+18446744073709551616-y.toNat-c.toNat)%18446744073709551616:Nat):Int)-18446744073709551616*((if x.toNat<y.toNat+c.toNat then 1 else 0:Nat):Int)=x-y-c:=by
   split<;>omega
  refine ⟨_,hK _ _ e (by omega) (by omega) (by split<;>omega) (by split<;>omega),fun K' hK'=>?_,fun n=>rfl,.inl fun c' w=>?_⟩
  ·unfold primC
   refine ⟨⟨hx,hx1,hy,hy1,hc0,hc1⟩,fun s t h1 h2 h3 h4 h5=>?_⟩
   obtain ⟨rfl,rfl⟩:=huniq s t h1 h2 h3 h4 h5
   exact hK'
  ·refine callFunc_ext hf hb hn h1 h2 _ w ?_
   simp only [List.map_cons,List.map_nil,TV.conc,Sc.conc]
   simp [run_three hc1,Extern.MathBitsCarry.pair,Extern.MathBitsCarry.m64,TC.conc,Sc.conc]
 ·rename_i heq; cases heq
 ·exact hK.elim

theorem primOk_mul64 (h:∀ x y:Int,0≤x→x<18446744073709551616→0≤y→y<18446744073709551616 →
  Fn P f [.one (.int .u64 x),.one (.int .u64 y)] (.tup [.one (.int .u64 (x*y/18446744073709551616)),.one (.int .u64 (x*y%18446744073709551616))])):PrimOk P W0 f .mul64:=by
 intro args K hK
 unfold primC at hK
 split at hK
 ·rename_i heq; cases heq
 ·rename_i heq; cases heq
 ·rename_i x y _
  obtain ⟨⟨hx,hx1,hy,hy1⟩,hK⟩:=hK
  have hp0:0≤x*y:=Int.mul_nonneg hx hy
  have hp1:x*y≤18446744073709551615*18446744073709551615:=Int.mul_le_mul (by omega) (by omega) hy (by omega)
  refine ⟨_,hK (x*y/18446744073709551616) (x*y%18446744073709551616) (by omega) (by omega) (by omega) (by omega) (by omega) (by omega),fun K' hK'=>?_,fun n=>rfl,.inr fun m=>?_⟩
  ·unfold primC
   refine ⟨⟨hx,hx1,hy,hy1⟩,fun s t h1 h2 h3 h4 h5 _=>?_⟩
   have e1:s=x*y/18446744073709551616:=by omega
   have e2:t=x*y%18446744073709551616:=by omega
   rw [e1,e2]; exact hK'
  ·exact (h x y hx hx1 hy hy1).2 W0 m
 ·exact hK.elim

end
end Go.Ev

namespace Go.Ev
section
variable {P:Program} {t:TypeId}

theorem kStruct {fs:List (Nat×Nat×Bool)} (h:(match P.underlying t with
  | some (.struct f)=>some (f.toList.map (fun x=>(x.offset,P.cellsOf x.type,isAggB P x.type)),f.toList.all (fun x=>(P.info? x.type).isSome&&(P.underlying x.type).isSome&&P.cellsOf x.type != 0))
  | _=>none)=some (fs,true)):KRow P t (.struct fs):=by
 split at h
 ·rename_i f hu
  simp only [Option.some.injEq,Prod.mk.injEq] at h
  exact ⟨f,hu,h.1,h.2⟩
 ·cases h

theorem kArray {n es:Nat} {ag:Bool} (h:(match P.underlying t with
  | some (.array n e)=>some (n,(P.info? e).isSome&&(P.underlying e).isSome,P.cellsOf e,isAggB P e)
  | _=>none)=some (n,true,es,ag)):KRow P t (.array n es ag):=by
 split at h
 ·rename_i n' e hu
  simp only [Option.some.injEq,Prod.mk.injEq,Bool.and_eq_true] at h
  obtain ⟨rfl,⟨h1,h2⟩,h3,h4⟩:=h
  exact ⟨e,hu,h1,h2,h3,h4⟩
 ·cases h

theorem kSlice {e es eb:Nat} {ag:Bool} (h:(match P.underlying t with
  | some (.slice e)=>some (e,(P.info? e).isSome&&(P.underlying e).isSome,P.cellsOf e,P.bytesOf e,isAggB P e)
  | _=>none)=some (e,true,es,eb,ag)):KRow P t (.slice e es eb ag):=by
 split at h
 ·rename_i e' hu
  simp only [Option.some.injEq,Prod.mk.injEq,Bool.and_eq_true] at h
  obtain ⟨rfl,⟨h1,h2⟩,h3,h4,h5⟩:=h
  exact ⟨hu,h1,h2,h3,h4,h5⟩
 ·cases h

end
end Go.Ev
