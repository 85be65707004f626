import Derived.Test.YthmdbgdagnhheaaGreatDoorEvA
import Derived.Tactics

namespace Go.Hv
open Go.Ev

abbrev Base:=Nat→Obj→Prop

def B0:Base:=fun _ _=>False
def Base.or (A B:Base):Base:=fun r o=>A r o∨B r o
def Base.le (A B:Base):Prop:=∀ r o,A r o→B r o

structure HM where
 bs:Mem
 N:Base

def bcell (B:Base) (a:Addr) (v:Value):Prop:=∃ cells el fz,B a.block (.cells cells el fz)∧a.spot=none∧cells[a.off]?=some v

def ERead (B:Base) (agg:Bool) (size:Nat) (a:Addr) (v:TV):Prop:=
 match agg with
 | false=>∃ s:Sc,bcell B a (s.conc Con0)∧s.closed 0=true∧v=.one s
 | true=>∃ l:List Sc,l.length=size∧(∀ i s,l[i]?=some s→bcell B (a.add i) (s.conc Con0))∧closedL 0 l=true∧v=.agg l

def BaseIn (B:Base) (w:World):Prop:=∀ r o,B r o→w.heap[r]?=some o

structure Rel (A:Base) (c:Con) (m:HM) (w:World):Prop where
 blk:∀ b x,nth m.bs b=some x→∃ junk:List Value,w.heap[c.ι b]?=some (.cells (x.cells.map (Sc.conc c)++junk).toArray x.elem (0,0)) ∧
  (x.grows=false→junk=[])∧(x.grows=true→x.cells.length+junk.length=x.es)
 cl:∀ b x,nth m.bs b=some x→closedL m.bs.length x.cells=true
 inj:∀ a b x y,nth m.bs a=some x→nth m.bs b=some y→c.ι a=c.ι b→a=b
 lt:∀ b,b<m.bs.length→c.ι b<w.heap.size
 baseA:BaseIn A w
 baseN:BaseIn m.N w
 sepA:∀ b x o,nth m.bs b=some x→¬ A (c.ι b) o
 sepN:∀ b x o,nth m.bs b=some x→¬ m.N (c.ι b) o

structure Same (w w':World):Prop where
 size:w.heap.size≤w'.heap.size
 os:w'.os=w.os
 tape:w'.tape=w.tape
 output:w'.output=w.output

structure Since (c0:Con) (m0:HM) (w0:World) (c:Con) (m:HM) (w:World):Prop where
 le:m0.bs.length≤m.bs.length
 agree:∀ b,b<m0.bs.length→c.ι b=c0.ι b∧c.κ b=c0.κ b
 same:Same w0 w
 keep:∀ r,r<w0.heap.size→(∀ b x,nth m0.bs b=some x→c0.ι b≠r)→w.heap[r]?=w0.heap[r]?
 fresh:∀ b x,nth m.bs b=some x→m0.bs.length≤b→w0.heap.size≤c.ι b∨∃ d y,nth m0.bs d=some y∧c.ι b=c0.ι d
 live:∀ b x,nth m.bs b=some x→b<m0.bs.length→∃ y,nth m0.bs b=some y
 newN:∀ r o,m.N r o→m0.N r o∨w0.heap.size≤r∨∃ d y,nth m0.bs d=some y∧c0.ι d=r

def CALL (P:Program) (A:Base) (f:FuncId) (args:List TV) (m:HM) (K:TV→HM→Prop):Prop:=
 Enters P f∧∀ (c:Con) (w:World),Rel A c m w→(∀ v∈args,v.closed m.bs.length=true) →
  Calls P f (args.map (TV.conc c)).toArray w fun e w'=>∃ v m' c',e=.returned (v.conc c')∧Rel A c' m' w'∧Since c m w c' m' w'∧v.closed m'.bs.length=true∧K v m'

def HC (P:Program) (B:Base) (f:FuncId) (args:List TV) (K:TV→Base→Prop):Prop:=
 Enters P f∧∀ (w:World),BaseIn B w→Calls P f (args.map (TV.conc Con0)).toArray w fun e w'=>∃ v N,e=.returned (v.conc Con0)∧v.closed 0=true ∧
  BaseIn N w'∧(∀ r o,N r o→w.heap.size≤r)∧Same w w'∧(∀ r,r<w.heap.size→w'.heap[r]?=w.heap[r]?)∧K v N

def HCO (P:Program) (B:Base) (f:FuncId) (args:List TV) (K:Nat→Nat→Blk→Base→Prop):Prop:=
 Enters P f∧∀ (w:World),BaseIn B w→Calls P f (args.map (TV.conc Con0)).toArray w fun e w'=>∃ r n cap k N junk,e=.returned (.slice (some ⟨r,0,none⟩) n cap) ∧
  w'.heap[r]?=some (.cells (k.cells.map (Sc.conc Con0)++junk).toArray k.elem (0,0))∧(k.grows=false→junk=[])∧(k.grows=true→k.cells.length+junk.length=k.es)∧closedL 0 k.cells=true ∧
  w.heap.size≤r∧(∀ o,¬ N r o)∧BaseIn N w'∧(∀ r o,N r o→w.heap.size≤r)∧Same w w'∧(∀ r,r<w.heap.size→w'.heap[r]?=w.heap[r]?)∧K n cap k N

structure Cfg where
 P:Program
 A:Base
 T:Tys
 prim:Nat→Option Prim
 /-- 0: of values; 1: reads memory,its result stands in memory that nobody writes; 2: likewise,its result is the caller's; 3: writes. -/
 kind:Nat→Nat
 /-- The order in which a region is walked,by its number; else the text's. -/
 ord:Nat→Option (List Nat)

def SP.ext (c:Con):SP→SP
 | .loc b o=>.ext ⟨c.ι b,o,none⟩
 | .ext a=>.ext a

def Sc.ext (c:Con):Sc→Sc
 | .ptr (some p)=>.ptr (some (SP.ext c p))
 | .slice (some p) l k=>.slice (some (SP.ext c p)) l k
 | .buf b l=>.slice (some (.ext ⟨c.ι b,0,none⟩)) l (c.κ b)
 | s=>s

def extL (c:Con):List Sc→List Sc
 | []=>[]
 | s::l=>Sc.ext c s::extL c l

def TC.ext (c:Con):TC→TC
 | .one s=>.one (Sc.ext c s)
 | .agg l=>.agg (extL c l)

def extT (c:Con):List TC→List TC
 | []=>[]
 | s::l=>TC.ext c s::extT c l

def TV.ext (c:Con):TV→TV
 | .one s=>.one (Sc.ext c s)
 | .agg l=>.agg (extL c l)
 | .tup l=>.tup (extT c l)

def extA (c:Con):List TV→List TV
 | []=>[]
 | v::l=>TV.ext c v::extA c l

def Lent (c:Con) (B:Base) (bs:Mem):Prop:=
 ∀ b x,nth bs b=some x→∃ junk:List Value,B (c.ι b) (.cells ((extL c x.cells).map (Sc.conc Con0)++junk).toArray x.elem (0,0))

def acall (G:Cfg) (f:FuncId) (args:List TV) (m:HM) (K:TV→HM→Prop):Prop:=
 match G.prim f with
 | some p=>primC p args fun v=>K v m
 | none=>match G.kind f with
  | 0=>∃ v,Ev.Fn G.P f args v∧closedTs 0 args=true∧K v m
  | 1=>∃ K0:TV→Base→Prop,(∀ (c:Con) (B:Base),Base.le (G.A.or m.N) B→Lent c B m.bs→HC G.P B f (extA c args) K0)∧(∃ v N,v.closed 0=true∧K0 v N) ∧
    ∀ v N',v.closed 0=true→K0 v N'→∀ N1,Base.le (m.N.or N') N1→K v ⟨m.bs,N1⟩
  | 2=>∃ K0:Nat→Nat→Blk→Base→Prop,(∀ (c:Con) (B:Base),Base.le (G.A.or m.N) B→Lent c B m.bs→HCO G.P B f (extA c args) K0)∧(∃ n cap k N,closedL 0 k.cells=true∧K0 n cap k N) ∧
    ∀ n cap k N',closedL 0 k.cells=true→K0 n cap k N'→∀ N1,Base.le (m.N.or N') N1→match snoc m.bs (some k) with
     | (b,bs')=>K (.one (.slice (some (.loc b 0)) n cap)) ⟨bs',N1⟩
  | _=>∃ R,CALL G.P G.A f args m R∧(∃ v m',R v m')∧∀ v m',R v m'→K v m'

def aload (G:Cfg) (t:TypeId) (x:TV) (m:HM) (K:TV→HM→Prop):Prop:=
 match lk G.T t,x with
 | some i,.one (.ptr (some (.loc b o)))=>match nth m.bs b with
  | some k=>match partV i.agg i.size k.cells o with
   | some v=>K v m
   | none=>False
  | none=>False
 | some i,.one (.ptr (some (.ext a)))=>∃ v,ERead (G.A.or m.N) i.agg i.size a v∧K v m
 | _,_=>False

def astore (G:Cfg) (t:TypeId) (x v:TV) (m:HM):Option HM:=
 match lk G.T t,x,v.cells with
 | some i,.one (.ptr (some (.loc b o))),some vs=>match nth m.bs b with
  | some ⟨l,el,es,gr⟩=>match Nat.beq i.size vs.length with
   | true=>match putAt l o vs with
    | some cs=>some ⟨setB m.bs b (some ⟨cs,el,es,gr⟩),m.N⟩
    | none=>none
   | false=>none
  | none=>none
 | _,_,_=>none

def SliceHas (A:Base) (m:HM) (s:TV) (k:Nat) (cells:List Sc):Prop:=
 match s with
 | .one (.slice none _ _)=>cells=[]
 | .one (.slice (some (.loc b o)) _ _)=>match nth m.bs b with
  | some x=>takeAt x.cells o k=some cells
  | none=>False
 | .one (.slice (some (.ext a)) _ _)=>cells.length=k∧closedL 0 cells=true∧∀ i s,cells[i]?=some s→bcell (A.or m.N) (a.add i) (s.conc Con0)
 | _=>False

def lenS:TV→Option Nat
 | .one (.slice _ n _)=>some n
 | _=>none

def acopy (G:Cfg) (ts:List TypeId) (args:List TV) (m:HM) (K:TV→HM→Prop):Prop:=
 match ts,args with
 | t::_,[.one (.slice (some (.loc b o)) dl _),y]=>match lk G.T t,nth m.bs b,lenS y with
  | some { k:=.slice _ es _ _,.. },some ⟨l,el,es',gr⟩,some sl=>∃ vs,SliceHas G.A m y (Nat.min sl dl*es) vs∧match putAt l o vs with
   | some cs=>K (.one (.int .i64 (Nat.min sl dl:Nat))) ⟨setB m.bs b (some ⟨cs,el,es',gr⟩),m.N⟩
   | none=>False
  | _,_,_=>False
 | _,_=>False

def CapOk (need eb:Nat):Prop:=(2*need+256)*eb≤281474976710656∧0<eb

def aappend (G:Cfg) (ts:List TypeId) (args:List TV) (m:HM) (K:TV→HM→Prop):Prop:=
 match ts,args with
 | t::t2::_,[x,y]=>match lk G.T t,lk G.T t2,lenS y with
  | some { k:=.slice el es eb _,.. },some { k:=.slice _ _ _ _,.. },some k=>match lk G.T el with
   | some i=>∃ vs,SliceHas G.A m y (k*es) vs∧vs.length=k*es∧i.zero.length=es∧match x with
    | .one (.slice none 0 0)=>match Nat.beq k 0 with
     | true=>K (.one (.slice none 0 0)) m
     | false=>CapOk k eb∧0<k∧∀ cap,k≤cap→match snoc m.bs (some ⟨vs,el,cap*es,true⟩) with
      | (b',bs')=>K (.one (.slice (some (.loc b' 0)) k cap)) ⟨bs',m.N⟩
    | .one (.slice (some (.loc b 0)) n cap0)=>match nth m.bs b with
     | some x=>x.cells.length=n*es∧n≤cap0∧x.elem=el∧(if x.grows then x.es=cap0*es else cap0=n)∧CapOk (n+k) eb ∧
       ∀ cap,n+k≤cap→match snoc (setB m.bs b none) (some ⟨x.cells++vs,el,cap*es,true⟩) with
       | (b',bs')=>K (.one (.slice (some (.loc b' 0)) (n+k) cap)) ⟨bs',m.N⟩
     | none=>False
    | _=>False
   | none=>False
  | _,_,_=>False
 | _,_=>False

def abuild (G:Cfg) (t:TypeId) (n:Nat) (vs:List (Nat×TV)) (m:HM):Option (TV×HM):=
 match lk G.T t with
 | some { k:=.slice el es _ _,.. }=>match lk G.T el with
  | some i=>match decide (n*es≤16777216∧i.zero.length=es) with
   | true=>match fillA es (repS n i.zero) vs with
    | some cs=>match snoc m.bs (some ⟨cs,el,0,false⟩) with
     | (b,m')=>some (.one (.slice (some (.loc b 0)) n n),⟨m',m.N⟩)
    | none=>none
   | false=>none
  | none=>none
 | _=>none

def optM (r:Option (TV×HM)) (K:TV→HM→Prop):Prop:=
 match r with
 | some (v,m)=>K v m
 | none=>False

def amake (G:Cfg) (t:TypeId) (x y:TV) (m:HM) (K:TV→HM→Prop):Prop:=
 match lk G.T t,x,y with
 | some { k:=.slice el es eb _,.. },.one (.int .i64 l),.one (.int .i64 c)=>match lk G.T el with
  | some i=>(0≤l∧l=c∧c<9223372036854775808∧(eb:Int)*c≤281474976710656∧i.zero.length=es)∧match snoc m.bs (some ⟨repS c.toNat i.zero,el,0,false⟩) with
   | (b,m')=>K (.one (.slice (some (.loc b 0)) c.toNat c.toNat)) ⟨m',m.N⟩
  | none=>False
 | _,_,_=>False

def byteS (n:Int):Sc:=.int .u8 n
def bytesS:List Int→List Sc
 | []=>[]
 | n::l=>byteS n::bytesS l

def strOf (l:List Int):ByteArray:=⟨(l.map fun n=>UInt8.ofNat n.toNat).toArray⟩

def aconv (G:Cfg) (s d:TypeId) (x:TV) (m:HM) (K:TV→HM→Prop):Prop:=
 match lk G.T s,lk G.T d with
 | some { k:=.slice el _ _ _,.. },some { k:=.string,.. }=>match lk G.T el,lenS x with
  | some { k:=.int .u8,.. },some n=>∃ l:List Int,l.length=n∧SliceHas G.A m x n (bytesS l)∧(∀ z∈l,0≤z∧z<256)∧K (.one (.str (strOf l))) m
  | _,_=>False
 | some { k:=.string,.. },some { k:=.slice el _ _ _,.. }=>match lk G.T el,x with
  | some { k:=.int .u8,.. },.one (.str t)=>t.size<9223372036854775808∧∀ (a:Addr) (cap:Nat) (N1:Base),t.size≤cap→a.off=0→a.spot=none→Base.le m.N N1→(∀ i b,t.data[i]?=some b→bcell N1 (a.add i) (.int .u8 b.toNat)) →
    K (.one (.slice (some (.ext a)) t.size cap)) ⟨m.bs,N1⟩
  | _,_=>False
 | _,_=>False

def pval2 (T:Tys) (op:Op) (e:Env):Option TV:=
 match op with
 | .binOp op _ x y _=>match opv e x,opv e y,op with
  | some (.one (.str a)),some (.one (.str b)),.eql=>some (.one (.bool (a.toList==b.toList)))
  | some (.one (.str a)),some (.one (.str b)),.neq=>some (.one (.bool (!(a.toList==b.toList))))
  | _,_,_=>none
 | .call { callee:=.builtin .min,args:=xs,argTypes:=_ }=>match getOps e xs.toList with
  | some [.one (.int k a),.one (.int _ b)]=>some (.one (.int k (if b<a then b else a)))
  | _=>none
 | .call { callee:=.builtin .len,args:=xs,argTypes:=ts }=>match ts.toList with
  | t::_=>match lk T t,getOps e xs.toList with
   | some { k:=.string,.. },some [.one (.str s)]=>some (.one (.int .i64 s.size))
   | _,_=>none
  | _=>none
 | .slice t x lo (some hi) (some mx)=>match lk T t,opv e x with
  | some { k:=.slice _ es _ _,.. },some (.one (.slice (some p) len cap))=>match bound e lo 0,bound e (some hi) len,bound e (some mx) 0 with
   | some l,some h,some m=>match decide (0≤m∧m≤(cap:Int)∧0≤h∧h≤m∧0≤l∧l≤h) with
    | true=>match Nat.beq l.toNat m.toNat with
     | true=>some (.one (.slice (some p) (h.toNat-l.toNat) (m.toNat-l.toNat)))
     | false=>some (.one (.slice (some (p.add (l.toNat*es))) (h.toNat-l.toNat) (m.toNat-l.toNat)))
    | false=>none
   | _,_,_=>none
  | _,_=>none
 | .slice t x lo hi none=>match lk T t,opv e x with
  | some { k:=.slice _ _ _ _,.. },some (.one (.slice none 0 0))=>match bound e lo 0,bound e hi 0 with
   | some l,some h=>match decide (l=0∧h=0) with
    | true=>some (.one (.slice none 0 0))
    | false=>none
   | _,_=>none
  | _,_=>none
 | _=>none

def pvalH (T:Tys) (op:Op) (e:Env):Option TV:=
 match pval T op e with
 | some v=>some v
 | none=>pval2 T op e

def aop (G:Cfg) (o:Oper) (e:Env) (m:HM) (K:TV→HM→Prop):Prop:=
 match o.op with
 | .alloc t=>match lk G.T t with
  | some i=>match snoc m.bs (some ⟨i.zero,t,0,false⟩) with
   | (b,m')=>K (.one (.ptr (some (.loc b 0)))) ⟨m',m.N⟩
  | none=>False
 | .box t x=>match opv e x with
  | some v=>match v.cells with
   | some cs=>match snoc m.bs (some ⟨cs,t,0,false⟩) with
    | (b,m')=>K (.one (.ptr (some (.loc b 0)))) ⟨m',m.N⟩
   | none=>False
  | none=>False
 | .load t x=>match opv e x with
  | some v=>aload G t v m K
  | none=>False
 | .store t x y=>match opv e x,opv e y with
  | some v,some u=>match astore G t v u m with
   | some m'=>K (.tup []) m'
   | none=>False
  | _,_=>False
 | .call { callee:=.value (.func f),args:=xs,argTypes:=_ }=>match getOps e xs.toList with
  | some vs=>acall G f vs m K
  | none=>False
 | .call { callee:=.builtin .copy,args:=xs,argTypes:=ts }=>match getOps e xs.toList with
  | some vs=>acopy G ts.toList vs m K
  | none=>False
 | .call { callee:=.builtin .append,args:=xs,argTypes:=ts }=>match getOps e xs.toList with
  | some vs=>aappend G ts.toList vs m K
  | none=>False
 | .makeSlice t x y=>match opv e x,opv e y with
  | some u,some v=>amake G t u v m K
  | _,_=>False
 | op=>match newOp op with
  | some (t,n,ps)=>match opvP e ps with
   | some vs=>optM (abuild G t n vs m) K
   | none=>False
  | none=>match pvalH G.T op e with
   | some v=>K v m
   | none=>match op with
    | .convert s d x=>match opv e x with
     | some v=>aconv G s d v m K
     | none=>False
    | _=>False

def aopsL (G:Cfg) (all:List Oper):List Oper→Env→HM→(Env→HM→Prop)→Prop
 | [],e,m,K=>K e m
 | o::r,e,m,K=>match wantedA all o.guard e with
  | some true=>aop G o e m fun v m'=>aopsL G all r (putE o.dst v e) m' K
  | some false=>aopsL G all r (putE o.dst (.tup []) e) m K
  | none=>False

def pickL (ops:List Oper):List Nat→List Oper
 | []=>[]
 | i::l=>match ops[i]? with
  | some o=>o::pickL ops l
  | none=>pickL ops l

def seqOf (G:Cfg) (id:Nat) (draw:Bool) (ops:List Oper):List Oper:=
 match draw with
 | false=>ops
 | true=>match G.ord id with
  | none=>ops
  | some l=>pickL ops l

def loopN (body:(Exit→Env→HM→Prop)→Env→HM→Prop) (d:List Nat) (Q:Exit→Env→HM→Prop):Nat→Env→HM→Prop
 | 0,_,_=>False
 | k+1,e,m=>body (fun x e' m'=>match x with
  | .normal=>restr (fun e''=>loopN body d Q k e'' m') e' d []
  | x=>Q x e' m') e m

structure St (G:Cfg) (N:Nat) (c:Con) (m:HM) (e:Env) (a:Act) (w:World):Prop where
 rel:Rel G.A c m w
 fits:Fits c m.bs.length e a
 size:N≤a.tmps.size

def Post (G:Cfg) (N:Nat) (c:Con) (m:HM) (w:World) (Q:Exit→Env→HM→Prop):Exit→Act→World→Prop:=
 fun x a' w'=>∃ e' m' c',Q x e' m'∧St G N c' m' e' a' w'∧Since c m w c' m' w'

def opKind (G:Cfg):Op→Nat
 | .alloc _ | .box ..=>3
 | .makeSlice ..=>2
 | .store ..=>2
 | .load ..=>1
 | .call { callee:=.value (.func f),args:=_,argTypes:=_ }=>match G.prim f with
  | some _=>1
  | none=>match G.kind f with
   | 0=>1
   | 1=>4
   | 2=>5
   | _=>2
 | .call { callee:=.builtin .copy,args:=_,argTypes:=_ }=>2
 | .call { callee:=.builtin .append,args:=_,argTypes:=_ }=>2
 | .convert s d _=>match lk G.T s,lk G.T d with
  | some { k:=.slice _ _ _ _,.. },some { k:=.string,.. }=>1
  | some { k:=.string,.. },some { k:=.slice _ _ _ _,.. }=>4
  | _,_=>0
 | op=>match newOp op with
  | some _=>3
  | none=>0

def compat (i j:Nat):Bool:=
 match i,j with
 | 0,_=>true
 | _,0=>true
 | 1,1=>true
 | 1,3=>true
 | 1,4=>true
 | 1,5=>true
 | 4,3=>true
 | _,_=>false

def freeA (G:Cfg) (ops:Array Oper) (listed:Array Bool) (i:Nat) (oi:Oper) (A:Nat):Bool:=
 (List.range ops.size).all fun j=>match A.testBit j with
  | true=>(listed.getD j true==false)&&match ops[j]? with
   | some oj=>oj.after.any (fun e=>Region.binds .any e&&(Nat.beq e.on i||(Nat.blt e.on ops.size&&A.testBit e.on)))
   | none=>false
  | false=>j==i||listed.getD j true||match ops[j]? with
   | some oj=>oi.apart ops oj&&compat (opKind G oi.op) (opKind G oj.op)
   | none=>true

def freeK (G:Cfg) (ops:Array Oper) (listed:Array Bool) (i:Nat):Bool:=
 match ops[i]? with
 | none=>false
 | some oi=>freeA G ops listed i oi (behind i ops.toList 0 0)

def lexK (G:Cfg) (ops:Array Oper):List Nat→Array Bool→Bool
 | [],listed=>(Region.ready .any ops listed).isEmpty
 | k::l,listed=>(Region.ready .any ops listed).contains k&&freeK G ops listed k&&lexK G ops l (listed.setIfInBounds k true)

def ordOf (G:Cfg) (id:Nat) (n:Nat):List Nat:=
 match G.ord id with
 | none=>List.range n
 | some l=>l

def markOf (G:Cfg) (id:Nat) (draw:Bool):Option (List Nat):=
 match draw with
 | false=>none
 | true=>match G.ord id with
  | some (k::l)=>match Nat.beq k 100000 with
   | true=>some l
   | false=>none
  | _=>none

def sepP (x y:Option TV):Bool:=
 match x,y with
 | some (.one (.ptr (some (.loc b _)))),some (.one (.ptr (some (.loc b' _))))=>!(Nat.beq b b')
 | some (.one (.ptr (some (.ext _)))),some (.one (.ptr (some (.loc _ _))))=>true
 | _,_=>false

def loadX:Op→Option Operand
 | .load _ x=>some x
 | _=>none
def storeY:Op→Option Operand
 | .store _ y _=>some y
 | _=>none

def depL (i:Nat):List Oper→Nat→List Nat→List Nat
 | [],_,A=>A
 | o::r,j,A=>match o.after.toList.any (fun e=>Region.binds .any e&&(Nat.beq e.on i||A.any (Nat.beq e.on))) with
  | true=>depL i r (j+1) (j::A)
  | false=>depL i r (j+1) A
def depB (ops:Array Oper) (i j:Nat):Bool:=(depL i ops.toList 0 []).any (Nat.beq j)

def lateChk (ops:Array Oper) (i:Nat) (o:Oper) (l:List Nat) (e:Env):Bool:=
 match loadX o.op with
 | none=>true
 | some x=>l.all fun j=>match ops[j]? with
  | some oj=>match storeY oj.op with
   | some y=>sepP (opv e x) (opv e y)||depB ops i j
   | none=>true
  | none=>true

def aopsS (G:Cfg) (ops:Array Oper):List Nat→Env→HM→(Env→HM→Prop)→Prop
 | [],e,m,K=>K e m
 | i::l,e,m,K=>match ops[i]? with
  | none=>False
  | some o=>match wantedA ops.toList o.guard e with
   | some true=>match lateChk ops i o l e with
    | true=>aop G o e m fun v m'=>aopsS G ops l (putE o.dst v e) m' K
    | false=>False
   | some false=>aopsS G ops l (putE o.dst (.tup []) e) m K
   | none=>False

def settled (ops:Array Oper) (listed:Array Bool) (y:Operand):Bool:=
 match y with
 | .tmp t=>(List.range ops.size).all fun k=>listed.getD k true||match ops[k]? with
  | some ok=>match ok.dst with
   | some d=>!(Nat.beq d t)
   | none=>true
  | none=>true
 | _=>true

def compatS (G:Cfg) (ops:Array Oper) (listed:Array Bool) (oi oj:Op):Bool:=
 compat (opKind G oi) (opKind G oj)||match loadX oi,storeY oj with
  | some _,some y=>settled ops listed y
  | _,_=>false

def freeS (G:Cfg) (ops:Array Oper) (listed:Array Bool) (i:Nat) (oi:Oper) (A:Nat):Bool:=
 (List.range ops.size).all fun j=>match A.testBit j with
  | true=>(listed.getD j true==false)&&match ops[j]? with
   | some oj=>oj.after.any (fun e=>Region.binds .any e&&(Nat.beq e.on i||(Nat.blt e.on ops.size&&A.testBit e.on)))
   | none=>false
  | false=>j==i||listed.getD j true||match ops[j]? with
   | some oj=>oi.apart ops oj&&compatS G ops listed oi.op oj.op
   | none=>true

def lexS (G:Cfg) (ops:Array Oper):List Nat→Array Bool→Bool
 | [],listed=>(Region.ready .any ops listed).isEmpty
 | k::l,listed=>(match ops[k]? with
  | none=>false
  | some oi=>(Region.ready .any ops listed).contains k&&freeS G ops listed k oi (behind k ops.toList 0 0)&&((List.range ops.size).all fun j=>listed.getD j true||j==k||l.contains j&&(!(depB ops k j)||(behind k ops.toList 0 0).testBit j)))&&lexS G ops l (listed.setIfInBounds k true)

def clsV (o:Oper):Nat:=
 match o.guard with
 | some _=>0
 | none=>match o.op with
  | .alloc _=>1
  | .store _ (.tmp _) _=>2
  | _=>0

def edgeV (o:Oper) (k:Nat):Bool:=o.after.any fun e=>Region.binds .any e&&Nat.beq e.on k

def allV (ops:Array Oper) (p:Nat→Oper→Bool):Bool:=(List.range ops.size).all fun k=>match ops[k]? with
 | some o=>p k o
 | none=>true

theorem allV_spec {ops:Array Oper} {p:Nat→Oper→Bool} (h:allV ops p=true) {k:Nat} {o:Oper} (hk:ops[k]?=some o):p k o=true:=by
 unfold allV at h
 simp only [List.all_eq_true,List.mem_range] at h
 have:=h k (Array.getElem?_eq_some_iff.1 hk).1
 simpa [hk] using this

def mkD (o:Oper):Option (TypeId×Tmp):=match o.op,o.dst with
 | .alloc t,some d=>some (t,d)
 | _,_=>none
def stD (o:Oper):Option (TypeId×Tmp×Operand):=match o.op with
 | .store t (.tmp d) y=>some (t,d,y)
 | _=>none

theorem mkD_some {o:Oper} {t:TypeId} {d:Tmp} (h:mkD o=some (t,d)):o.op=.alloc t∧o.dst=some d:=by
 unfold mkD at h
 split at h
 ·simp only [Option.some.injEq,Prod.mk.injEq] at h
  obtain ⟨rfl,rfl⟩:=h
  rename_i h1 h2; exact ⟨h1,h2⟩
 ·cases h

theorem stD_some {o:Oper} {t:TypeId} {d:Tmp} {y:Operand} (h:stD o=some (t,d,y)):o.op=.store t (.tmp d) y:=by
 unfold stD at h
 split at h
 ·simp only [Option.some.injEq,Prod.mk.injEq] at h
  obtain ⟨rfl,rfl,rfl⟩:=h
  assumption
 ·cases h

def opTmp:Operand→Option Tmp
 | .tmp t=>some t
 | _=>none

def okV (G:Cfg) (ops:Array Oper):Bool:=allV ops fun i o=>match clsV o with
 | 0=>true
 | 1=>match mkD o with
  | some (t,d)=>(lk G.T t).isSome&&allV ops fun k ok=>(Nat.beq k i||!(ok.dst==some d))&&(!(Nat.beq (clsV ok) 0)||!((ok.looksAt ops).contains d))&&(match stD ok with
   | some (_,_,y)=>!(opTmp y==some d)
   | none=>true)
  | none=>false
 | _=>o.dst.isNone&&match stD o with
  | some (t,d,y)=>(allV ops fun k ok=>(match opTmp y with
    | some ty=>!(ok.dst==some ty)||edgeV o k
    | none=>true)&&(match stD ok with
    | some (_,d',_)=>Nat.beq k i||!(Nat.beq d' d)
    | none=>true))&&((List.range ops.size).any fun a=>edgeV o a&&match ops[a]? with
    | some oa=>Nat.beq (clsV oa) 1&&(match mkD oa with
     | some (t',d')=>Nat.beq t' t&&Nat.beq d' d
     | none=>false)
    | none=>false)
  | none=>false

def freeV (G:Cfg) (ops:Array Oper) (listed:Array Bool) (i:Nat) (oi:Oper) (A:Nat):Bool:=
 (List.range ops.size).all fun j=>match A.testBit j with
  | true=>(listed.getD j true==false)&&match ops[j]? with
   | some oj=>oj.after.any (fun e=>Region.binds .any e&&(Nat.beq e.on i||(Nat.blt e.on ops.size&&A.testBit e.on)))
   | none=>false
  | false=>j==i||listed.getD j true||match ops[j]? with
   | some oj=>!(Nat.beq (clsV oj) 0)||(oi.apart ops oj&&compat (opKind G oi.op) (opKind G oj.op))
   | none=>true

def lexV (G:Cfg) (ops:Array Oper):List Nat→Array Bool→Bool
 | [],listed=>(Region.ready .any ops listed).isEmpty
 | k::l,listed=>(Region.ready .any ops listed).contains k&&(match ops[k]? with
  | some o=>match clsV o with
   | 0=>freeV G ops listed k o (behind k ops.toList 0 0)
   | _=>true
  | none=>false)&&lexV G ops l (listed.setIfInBounds k true)

def comps (ops:Array Oper):List Nat→List Nat
 | []=>[]
 | k::l=>match ops[k]? with
  | some o=>match clsV o with
   | 0=>k::comps ops l
   | _=>[]
  | none=>[]
def varsV (ops:Array Oper):List Nat→List Nat
 | []=>[]
 | k::l=>match ops[k]? with
  | some o=>match clsV o with
   | 0=>varsV ops l
   | _=>k::l
  | none=>k::l
def evens:List Nat→List Nat
 | a::_::r=>a::evens r
 | _=>[]
def odds:List Nat→List Nat
 | _::s::r=>s::odds r
 | _=>[]

def pairsV (ops:Array Oper):List Nat→Bool
 | []=>true
 | [_]=>false
 | a::s::r=>(match ops[a]?,ops[s]? with
  | some oa,some os=>Nat.beq (clsV oa) 1&&Nat.beq (clsV os) 2&&(match mkD oa,stD os with
   | some (t,d),some (t',d',_)=>Nat.beq t t'&&Nat.beq d d'
   | _,_=>false)
  | _,_=>false)&&!((evens r).contains a)&&pairsV ops r

def trailOk (ops:Array Oper) (tr st:List Nat):Bool:=tr.all fun k=>st.all fun s=>match ops[k]?,ops[s]? with
 | some ok,some os=>match stD os with
  | some (_,_,y)=>match opTmp y with
   | some ty=>!(ok.dst==some ty)
   | none=>true
  | none=>true
 | _,_=>false

def okVars (G:Cfg) (ops:Array Oper) (l:List Nat):Bool:=
 okV G ops&&pairsV ops (varsV ops l)&&(allV ops fun k o=>!(Nat.beq (clsV o) 1)||(evens (varsV ops l)).contains k)&&((List.range ((comps ops l).length+1)).any fun q=>
  trailOk ops ((comps ops l).drop ((comps ops l).length-q)) (odds (varsV ops l)) &&
   lexV G ops ((comps ops l).take ((comps ops l).length-q)++((evens (varsV ops l)++odds (varsV ops l))++(comps ops l).drop ((comps ops l).length-q))) (Array.replicate ops.size false))

def okCode (G:Cfg) (N:Nat):Code→Bool
 | .region id ops draw=>match ops.toList.all (dstOk N) with
  | true=>match draw with
   | true=>match markOf G id true with
    | some l=>Nat.beq l.length ops.size&&lexS G ops l (Array.replicate ops.size false)
    | none=>Nat.beq (ordOf G id ops.size).length ops.size&&(lexK G ops (ordOf G id ops.size) (Array.replicate ops.size false)||okVars G ops (ordOf G id ops.size))
   | false=>true
  | false=>false
 | .seq a b | .cond _ a b=>match okCode G N a with
  | true=>okCode G N b
  | false=>false
 | .block _ b | .loop b=>okCode G N b
 | _=>true

def SEM (G:Cfg) (cd:Code) (Q:Exit→Env→HM→Prop) (e:Env) (m:HM):Prop:=
 ∀ (N:Nat) (c:Con) (a:Act) (w:World),okCode G N cd=true→St G N c m e a w→cd.wp G.P (Post G N c m w Q) a w

def swp (G:Cfg):Code→(Exit→Env→HM→Prop)→Env→HM→Prop
 | .skip,Q,e,m=>Q .normal e m
 | .region id ops draw,Q,e,m=>match markOf G id draw with
  | some l=>aopsS G ops l e m (Q .normal)
  | none=>aopsL G ops.toList (seqOf G id draw ops.toList) e m (Q .normal)
 | .seq a b,Q,e,m=>swp G a (fun x e' m'=>match x with
  | .normal=>swp G b Q e' m'
  | x=>Q x e' m') e m
 | .cond c a b,Q,e,m=>match opv e c with
  | some (.one (.bool t))=>match t with
   | true=>swp G a Q e m
   | false=>swp G b Q e m
  | _=>False
 | .block id b,Q,e,m=>swp G b (fun x e' m'=>match x with
  | .exit i=>match Nat.beq i id with
   | true=>Q .normal e' m'
   | false=>Q (.exit i) e' m'
  | x=>Q x e' m') e m
 | .loop b,Q,e,m=>(∃ k,loopN (swp G b) (dom e []) Q k e m)∨SEM G (.loop b) Q e m
 | .exit id,Q,e,m=>Q (.exit id) e m
 | .ret,Q,e,m=>Q .ret e m
 | .label _,Q,e,m=>Q .normal e m
 | _,_,_,_=>False

def ares (G:Cfg):List ResultVar→Env→HM→(List TC→Prop)→Prop
 | [],_,_,K=>K []
 | .tmp t::r,e,m,K=>match get e t with
  | some v=>match v.tc with
   | some c=>ares G r e m fun l=>K (c::l)
   | none=>False
  | none=>False
 | .cell t ty::r,e,m,K=>match get e t with
  | some v=>aload G ty v m fun u _=>match u.tc with
   | some c=>ares G r e m fun l=>K (c::l)
   | none=>False
  | none=>False

def post (G:Cfg) (rs:Array ResultVar) (K:TV→HM→Prop):Exit→Env→HM→Prop
 | .normal,e,m | .ret,e,m=>ares G rs.toList e m fun l=>K (outV l) m
 | _,_,_=>False

end Go.Hv

namespace Go.Hv
open Go.Ev
section
variable {P:Program} {A:Base} {c:Con} {m:HM} {w:World}

theorem Same.refl (w:World):Same w w:=⟨Nat.le_refl _,rfl,rfl,rfl⟩
theorem Same.trans {w0 w1 w2:World} (h:Same w0 w1) (k:Same w1 w2):Same w0 w2:=⟨Nat.le_trans h.size k.size,k.os.trans h.os,k.tape.trans h.tape,k.output.trans h.output⟩

theorem Since.refl (c:Con) (m:HM) (w:World):Since c m w c m w:=
 ⟨Nat.le_refl _,fun _ _=>⟨rfl,rfl⟩,Same.refl w,fun _ _ _=>rfl,fun b x h1 h2=>absurd (nth_lt h1) (by omega),fun b x h1 _=>⟨x,h1⟩,fun _ _ h=>.inl h⟩

theorem Since.agree' {c0 c1:Con} {m0 m1:HM} {w0 w1:World} (h:Since c0 m0 w0 c1 m1 w1):Agree m0.bs.length c0 c1:=h.agree

theorem Since.trans {c0 c1 c2:Con} {m0 m1 m2:HM} {w0 w1 w2:World} (h:Since c0 m0 w0 c1 m1 w1) (k:Since c1 m1 w1 c2 m2 w2):Since c0 m0 w0 c2 m2 w2:=by
 have back:∀ b x,nth m1.bs b=some x→w0.heap.size≤c1.ι b∨∃ d y,nth m0.bs d=some y∧c1.ι b=c0.ι d:=fun b x hx=>by
  by_cases hlt:b<m0.bs.length
  ·obtain ⟨y,hy⟩:=h.live b x hx hlt
   exact .inr ⟨b,y,hy,(h.agree b hlt).1⟩
  ·exact h.fresh b x hx (by omega)
 refine ⟨Nat.le_trans h.le k.le,fun b hb=>?_,h.same.trans k.same,fun r hr hno=>?_,fun b x hx h1=>?_,fun b x hx hb=>?_,fun r o hn=>?_⟩
 ·have h1:=h.agree b hb
  have h2:=k.agree b (by have:=h.le; omega)
  exact ⟨h2.1.trans h1.1,h2.2.trans h1.2⟩
 ·rw [k.keep r (by have:=h.same.size; omega) (fun b x hx=>?_),h.keep r hr hno]
  intro e
  rcases back b x hx with h' | ⟨d,y,hy,h'⟩
  ·omega
  ·exact hno d y hy (by rw [← h']; exact e)
 ·by_cases hlt:b<m1.bs.length
  ·obtain ⟨y,hy⟩:=k.live b x hx hlt
   rw [(k.agree b hlt).1]
   exact h.fresh b y hy h1
  ·rcases k.fresh b x hx (by omega) with h' | ⟨d,y,hy,h'⟩
   ·left; have:=h.same.size; omega
   ·rw [h']; exact back d y hy
 ·have hlt:b<m1.bs.length:=Nat.lt_of_lt_of_le hb h.le
  obtain ⟨y,hy⟩:=k.live b x hx hlt
  exact h.live b y hy hb
 ·rcases k.newN r o hn with h' | h' | ⟨d,y,hy,rfl⟩
  ·exact h.newN r o h'
  ·exact .inr (.inl (Nat.le_trans h.same.size h'))
  ·rcases back d y hy with h' | ⟨d',y',hy',h'⟩
   ·exact .inr (.inl h')
   ·exact .inr (.inr ⟨d',y',hy',h'.symm⟩)

theorem Rel.drew (h:Rel A c m w):Rel A c m { w with drawn:=w.drawn+1 }:=
 ⟨h.blk,h.cl,h.inj,h.lt,h.baseA,h.baseN,h.sepA,h.sepN⟩

theorem Since.drew (c:Con) (m:HM) (w:World):Since c m w c m { w with drawn:=w.drawn+1 }:=
 ⟨Nat.le_refl _,fun _ _=>⟨rfl,rfl⟩,⟨Nat.le_refl _,rfl,rfl,rfl⟩,fun _ _ _=>rfl,fun b x h1 h2=>absurd (nth_lt h1) (by omega),fun b x h1 _=>⟨x,h1⟩,fun _ _ h=>.inl h⟩

theorem Rel.cell (h:Rel A c m w) {b o:Nat} {x:Blk} (hx:nth m.bs b=some x) {s:Sc} (hs:x.cells[o]?=some s):w.cell? ⟨c.ι b,o,none⟩=some (s.conc c):=by
 obtain ⟨junk,hj,_⟩:=h.blk b x hx
 rw [cell_of_block hj]
 obtain ⟨hlt,rfl⟩:=List.getElem?_eq_some_iff.1 hs
 simp [List.getElem?_append_left,hlt]

theorem bcell_in {B:Base} (h:BaseIn B w) {a:Addr} {v:Value} (hv:bcell B a v):w.cell? a=some v:=by
 obtain ⟨cells,el,fz,h1,h2,h3⟩:=hv
 have:=h _ _ h1
 simp [World.cell?,this,h2,h3]

theorem baseIn_or {B B':Base} (h:BaseIn B w) (h':BaseIn B' w):BaseIn (B.or B') w:=fun r o hr=>hr.elim (h r o) (h' r o)

theorem run_loadVar {t:TypeId} {i:TyI} (ht:RowOk P t i) (h:Rel A c m w) {b o:Nat} {x:Blk} (hx:nth m.bs b=some x) {v:TV} (hv:partV i.agg i.size x.cells o=some v) :
  (loadVar t ⟨c.ι b,o,none⟩).run P w=.ok (v.conc c) w:=by
 unfold partV at hv
 simp only [loadVar,Sem.run_bind,ht.isAgg,Result.andThen_ok]
 cases hag:i.agg with
 | true=>
  rw [hag] at hv
  simp only at hv
  split at hv
  ·rename_i r hr
   simp only [Option.some.injEq] at hv
   subst hv
   obtain ⟨e,hlen⟩:=takeAt_spec hr
   have hrl:r.length=i.size:=by rw [e]; simp; omega
   have:=run_loadCells (P:=P) (w:=w) (p:=⟨c.ι b,o,none⟩) (vs:=r.map (Sc.conc c)) (fun j u hu=>by
    rw [List.getElem?_map] at hu
    simp only [Option.map_eq_some_iff] at hu
    obtain ⟨s,hs,rfl⟩:=hu
    have:x.cells[o+j]?=some s:=by
     rw [e] at hs
     rw [List.getElem?_take] at hs
     split at hs
     ·simpa using hs
     ·cases hs
    have ha:(Addr.mk (c.ι b) o none).add j=⟨c.ι b,o+j,none⟩:=by unfold Addr.add; split<;>simp_all
    rw [ha]
    exact h.cell hx this)
   simp only [if_true,Sem.run_bind,ht.size,Result.andThen_ok]
   rw [show i.size=(r.map (Sc.conc c)).length by simp [hrl],this]
   simp [TV.conc]
  ·cases hv
 | false=>
  rw [hag] at hv
  simp only at hv
  split at hv
  ·rename_i s hr
   simp only [Option.some.injEq] at hv
   subst hv
   have:=cell_part hr
   have hc:=h.cell hx this
   simp [hc,TV.conc]
  ·cases hv

theorem run_loadVar_ext {B:Base} {t:TypeId} {i:TyI} (ht:RowOk P t i) (h:BaseIn B w) {p:Addr} {v:TV} (hv:ERead B i.agg i.size p v) :
  (loadVar t p).run P w=.ok (v.conc c) w∧v.closed 0=true:=by
 unfold ERead at hv
 simp only [loadVar,Sem.run_bind,ht.isAgg,Result.andThen_ok]
 have ag0:Agree 0 Con0 c:=fun b hb=>absurd hb (Nat.not_lt_zero b)
 cases hag:i.agg with
 | true=>
  rw [hag] at hv
  obtain ⟨l,hl,hc,hcl,rfl⟩:=hv
  have:=run_loadCells (P:=P) (w:=w) (p:=p) (vs:=l.map (Sc.conc c)) (fun j u hu=>by
   rw [List.getElem?_map] at hu
   simp only [Option.map_eq_some_iff] at hu
   obtain ⟨s,hs,rfl⟩:=hu
   rw [Sc.conc_agree ag0 (closedL_iff.1 hcl s (List.mem_of_getElem? hs))]
   exact bcell_in h (hc j s hs))
  simp only [if_true,Sem.run_bind,ht.size,Result.andThen_ok]
  rw [show i.size=(l.map (Sc.conc c)).length by simp [hl],this]
  exact ⟨by simp [TV.conc],hcl⟩
 | false=>
  rw [hag] at hv
  obtain ⟨s,hs,hcl,rfl⟩:=hv
  have:=bcell_in h hs
  rw [← Sc.conc_agree ag0 hcl] at this
  exact ⟨by simp [this,TV.conc],hcl⟩

theorem Rel.push' (h:Rel A c m w) {x:Blk} {junk:List Value} (hcl:closedL m.bs.length x.cells=true) (hj0:x.grows=false→junk=[]) (hj1:x.grows=true→x.cells.length+junk.length=x.es) (k:Nat) :
  Rel A (c.add m.bs.length w.heap.size 0) ⟨m.bs++[some x],m.N⟩ { w with heap:=w.heap.push (.cells (x.cells.map (Sc.conc c)++junk).toArray x.elem),drawn:=w.drawn+k } ∧
  Since c m w (c.add m.bs.length w.heap.size 0) ⟨m.bs++[some x],m.N⟩ { w with heap:=w.heap.push (.cells (x.cells.map (Sc.conc c)++junk).toArray x.elem),drawn:=w.drawn+k }:=by
 have hag:=Con.add_agree c m.bs.length w.heap.size 0
 have hι:∀ b,b<m.bs.length→(c.add m.bs.length w.heap.size 0).ι b=c.ι b:=fun b hb=>(hag b hb).1
 have hlast:(c.add m.bs.length w.heap.size 0).ι m.bs.length=w.heap.size:=by simp [Con.add]
 have hnth:∀ b y,nth (m.bs++[some x]) b=some y→(b<m.bs.length∧nth m.bs b=some y)∨(b=m.bs.length∧y=x):=fun b y hy=>by
  have hlt:=nth_lt hy
  simp only [List.length_append,List.length_cons,List.length_nil] at hlt
  by_cases hb:b<m.bs.length
  ·rw [nth_append_lt hb] at hy; exact .inl ⟨hb,hy⟩
  ·have:b=m.bs.length:=by omega
   subst this
   rw [nth_append_last] at hy
   exact .inr ⟨rfl,by simpa using hy.symm⟩
 have keepB:∀ B:Base,BaseIn B w→BaseIn B { w with heap:=w.heap.push (.cells (x.cells.map (Sc.conc c)++junk).toArray x.elem),drawn:=w.drawn+k }:=fun B hB r o hr=>by
  have:=hB r o hr
  simp only [Array.getElem?_push]
  rw [if_neg (by have:=(Array.getElem?_eq_some_iff.1 this).1; omega)]
  exact this
 have sepB:∀ B:Base,BaseIn B w→∀ o,¬ B w.heap.size o:=fun B hB o hr=>by
  have:=(Array.getElem?_eq_some_iff.1 (hB _ _ hr)).1
  omega
 constructor
 ·refine ⟨fun b y hy=>?_,fun b y hy=>?_,fun b d y z hy hz e=>?_,fun b hb=>?_,keepB _ h.baseA,keepB _ h.baseN,fun b y o hy=>?_,fun b y o hy=>?_⟩
  ·rcases hnth b y hy with ⟨hb,hy⟩ | ⟨rfl,rfl⟩
   ·obtain ⟨junk',h1,h2,h3⟩:=h.blk b y hy
    refine ⟨junk',?_,h2,h3⟩
    rw [hι b hb,concL_agree hag (h.cl b y hy)]
    simp only [Array.getElem?_push]
    rw [if_neg (by have:=h.lt b hb; omega)]
    exact h1
   ·refine ⟨junk,?_,hj0,hj1⟩
    rw [hlast,concL_agree hag hcl]
    simp
  ·rcases hnth b y hy with ⟨hb,hy⟩ | ⟨rfl,rfl⟩
   ·exact closedL_mono (by simp) (h.cl b y hy)
   ·exact closedL_mono (by simp) hcl
  ·rcases hnth b y hy with ⟨hb,hy⟩ | ⟨rfl,rfl⟩<;>rcases hnth d z hz with ⟨hd,hz⟩ | ⟨rfl,rfl⟩
   ·rw [hι b hb,hι d hd] at e; exact h.inj b d y z hy hz e
   ·rw [hι b hb,hlast] at e; have:=h.lt b hb; omega
   ·rw [hι d hd,hlast] at e; have:=h.lt d hd; omega
   ·rfl
  ·simp only [List.length_append,List.length_cons,List.length_nil] at hb
   simp only [Array.size_push]
   by_cases hlt:b<m.bs.length
   ·rw [hι b hlt]; have:=h.lt b hlt; omega
   ·have:b=m.bs.length:=by omega
    subst this; rw [hlast]; omega
  ·rcases hnth b y hy with ⟨hb,hy⟩ | ⟨rfl,rfl⟩
   ·rw [hι b hb]; exact h.sepA b y o hy
   ·rw [hlast]; exact sepB _ h.baseA o
  ·rcases hnth b y hy with ⟨hb,hy⟩ | ⟨rfl,rfl⟩
   ·rw [hι b hb]; exact h.sepN b y o hy
   ·rw [hlast]; exact sepB _ h.baseN o
 ·refine ⟨by simp,fun b hb=>hag b hb,⟨by simp,rfl,rfl,rfl⟩,fun r hr _=>?_,fun b y hy h1=>?_,fun b y hy hb=>?_,fun _ _ hn=>.inl hn⟩
  ·simp only [Array.getElem?_push]
   rw [if_neg (by omega)]
  ·rcases hnth b y hy with ⟨hb,_⟩ | ⟨rfl,_⟩
   ·omega
   ·left; rw [hlast]; exact Nat.le_refl _
  ·rcases hnth b y hy with ⟨_,hy⟩ | ⟨rfl,_⟩
   ·exact ⟨y,hy⟩
   ·omega

theorem Rel.push (h:Rel A c m w) {cells:List Sc} {t:TypeId} (hcl:closedL m.bs.length cells=true) :
  Rel A (c.add m.bs.length w.heap.size 0) ⟨m.bs++[some ⟨cells,t,0,false⟩],m.N⟩ { w with heap:=w.heap.push (.cells (cells.map (Sc.conc c)).toArray t) } ∧
  Since c m w (c.add m.bs.length w.heap.size 0) ⟨m.bs++[some ⟨cells,t,0,false⟩],m.N⟩ { w with heap:=w.heap.push (.cells (cells.map (Sc.conc c)).toArray t) }:=by
 have:=h.push' (x:=⟨cells,t,0,false⟩) (junk:=[]) hcl (fun _=>rfl) (fun h=>by cases h) 0
 simpa using this

theorem Rel.store (h:Rel A c m w) {b:Nat} {l cs vs:List Sc} {el:TypeId} {es:Nat} {gr:Bool} {o:Nat} (hx:nth m.bs b=some ⟨l,el,es,gr⟩) (hp:putAt l o vs=some cs) (hv:closedL m.bs.length vs=true) :
  ∃ w',(storeCells ⟨c.ι b,o,none⟩ (vs.map (Sc.conc c))).run P w=.ok () w'∧Rel A c ⟨setB m.bs b (some ⟨cs,el,es,gr⟩),m.N⟩ w'∧Since c m w c ⟨setB m.bs b (some ⟨cs,el,es,gr⟩),m.N⟩ w':=by
 obtain ⟨junk,h1,h2,h3⟩:=h.blk b _ hx
 obtain ⟨e,hlen⟩:=putAt_spec hp
 have hb:=nth_lt hx
 have hrun:=run_storeCells (P:=P) (fz:=(0,0)) (vs.map (Sc.conc c)) 0 o w _ h1 (by simp; omega) (by
  intro v hv'
  obtain ⟨s,hs,rfl⟩:=List.mem_map.1 hv'
  exact Sc.conc_one c (closedL_iff.1 hv s hs))
 refine ⟨_,hrun,?_,?_⟩
 ·have hcl:closedL m.bs.length cs=true:=putAt_closed hp (h.cl b _ hx) hv
  have hnth:∀ d x,nth (setB m.bs b (some ⟨cs,el,es,gr⟩)) d=some x→(d=b∧x=⟨cs,el,es,gr⟩)∨(d≠b∧nth m.bs d=some x):=fun d x hd=>by
   by_cases hdb:d=b
   ·subst hdb
    rw [nth_setB_same hx] at hd
    exact .inl ⟨rfl,by simpa using hd.symm⟩
   ·rw [nth_setB_ne (Ne.symm hdb)] at hd; exact .inr ⟨hdb,hd⟩
  have live:∀ d x,nth (setB m.bs b (some ⟨cs,el,es,gr⟩)) d=some x→∃ y,nth m.bs d=some y:=fun d x hd=>by
   rcases hnth d x hd with ⟨rfl,rfl⟩ | ⟨hne,hd⟩
   ·exact ⟨_,hx⟩
   ·exact ⟨_,hd⟩
  have keepB:∀ B:Base,BaseIn B w→(∀ o,¬ B (c.ι b) o)→BaseIn B { w with heap:=w.heap.setIfInBounds (c.ι b) (.cells ((l.map (Sc.conc c)++junk).toArray.toList.take (o+0)++vs.map (Sc.conc c)++(l.map (Sc.conc c)++junk).toArray.toList.drop (o+0+(vs.map (Sc.conc c)).length)).toArray el (0,0)) }:=fun B hB hs r o' hr=>by
   simp only [Array.getElem?_setIfInBounds]
   rw [if_neg (fun e'=>by subst e'; exact hs _ hr)]
   exact hB r o' hr
  refine ⟨fun d x hd=>?_,fun d x hd=>?_,fun d d' x y hd hd' e'=>?_,fun d hd=>?_,keepB _ h.baseA (fun o'=>h.sepA b _ o' hx),keepB _ h.baseN (fun o'=>h.sepN b _ o' hx),fun d x o' hd=>?_,fun d x o' hd=>?_⟩
  ·rcases hnth d x hd with ⟨rfl,rfl⟩ | ⟨hne,hd⟩
   ·refine ⟨junk,?_,h2,fun hg=>?_⟩
    ·simp only [Array.getElem?_setIfInBounds,if_true]
     rw [if_pos (h.lt d hb)]
     congr 3
     simp only [e,Nat.add_zero]
     rw [List.take_append_of_le_length (by simp; omega),List.drop_append_of_le_length (by simp; omega)]
     simp [List.map_take,List.map_drop]
    ·rw [← h3 hg]
     simp only [e]
     simp
     omega
   ·obtain ⟨junk',k1,k2,k3⟩:=h.blk d x hd
    refine ⟨junk',?_,k2,k3⟩
    simp only [Array.getElem?_setIfInBounds]
    rw [if_neg (fun e'=>hne (h.inj d b x _ hd hx e'.symm))]
    exact k1
  ·rw [length_setB]
   rcases hnth d x hd with ⟨rfl,rfl⟩ | ⟨hne,hd⟩
   ·exact hcl
   ·exact h.cl d x hd
  ·obtain ⟨x',hx'⟩:=live d x hd
   obtain ⟨y',hy'⟩:=live d' y hd'
   exact h.inj d d' x' y' hx' hy' e'
  ·rw [length_setB] at hd; simpa using h.lt d hd
  ·obtain ⟨x',hx'⟩:=live d x hd
   exact h.sepA d x' o' hx'
  ·obtain ⟨x',hx'⟩:=live d x hd
   exact h.sepN d x' o' hx'
 ·refine ⟨by simp,fun _ _=>⟨rfl,rfl⟩,⟨by simp,rfl,rfl,rfl⟩,fun r hr hno=>?_,fun d x hd h1=>absurd (nth_lt hd) (by simp only [length_setB]; omega),fun d x hd hlt=>?_,fun _ _ hn=>.inl hn⟩
  ·simp only [Array.getElem?_setIfInBounds]
   rw [if_neg (hno b _ hx)]
  ·by_cases hdb:d=b
   ·subst hdb; exact ⟨_,hx⟩
   ·rw [nth_setB_ne (Ne.symm hdb)] at hd; exact ⟨_,hd⟩

theorem nth_setB_none {l:Mem} {b d:Nat} {x:Blk} (h:nth (setB l b none) d=some x):d≠b∧nth l d=some x:=by
 by_cases hdb:d=b
 ·subst hdb
  rw [nth_eq,setB_eq] at h
  exfalso
  have hlt:=(List.getElem?_eq_some_iff.1 h).1
  simp at hlt
  simp [hlt] at h
 ·rw [nth_setB_ne (Ne.symm hdb)] at h; exact ⟨hdb,h⟩

theorem Rel.sub (h:Rel A c m w) {bs:Mem} (hs:∀ b x,nth bs b=some x→nth m.bs b=some x) (hl:bs.length=m.bs.length):Rel A c ⟨bs,m.N⟩ w:=
 ⟨fun b x hx=>h.blk b x (hs b x hx),fun b x hx=>by rw [hl]; exact h.cl b x (hs b x hx),fun a b x y hx hy=>h.inj a b x y (hs a x hx) (hs b y hy),fun b hb=>h.lt b (by rw [← hl]; exact hb),
  h.baseA,h.baseN,fun b x o hx=>h.sepA b x o (hs b x hx),fun b x o hx=>h.sepN b x o (hs b x hx)⟩

theorem Rel.more (h:Rel A c m w) {w':World} {N1:Base} (hk:∀ r,r<w.heap.size→w'.heap[r]?=w.heap[r]?) (hs:w.heap.size≤w'.heap.size) (hN:BaseIn N1 w') (hf:∀ r o,N1 r o→m.N r o∨w.heap.size≤r) :
  Rel A c ⟨m.bs,N1⟩ w':=by
 refine ⟨fun b x hx=>?_,h.cl,h.inj,fun b hb=>Nat.lt_of_lt_of_le (h.lt b hb) hs,fun r o hr=>?_,hN,h.sepA,fun b x o hx hn=>?_⟩
 ·obtain ⟨junk,k1,k2⟩:=h.blk b x hx
  exact ⟨junk,by rw [hk _ (h.lt b (nth_lt hx))]; exact k1,k2⟩
 ·have:=h.baseA r o hr
  rw [hk r (Array.getElem?_eq_some_iff.1 this).1]; exact this
 ·rcases hf _ _ hn with h' | h'
  ·exact h.sepN b x o hx h'
  ·have:=h.lt b (nth_lt hx); omega

end
end Go.Hv

namespace Go.Hv
open Go.Ev
section
variable {P:Program} {A:Base} {c:Con} {m:HM} {w:World}

theorem addr_off {b o j:Nat}:(Addr.mk b o none).add j=⟨b,o+j,none⟩:=by unfold Addr.add; split<;>simp_all

theorem sliceHas_run (hr:Rel A c m w) {s:TV} {k size n:Nat} {cells:List Sc} (h:SliceHas A m s k cells) (hk:cells.length=k) (hn:n*size=k) (hl:lenS s=some n) :
  (Builtin.firstCells size n (s.conc c)).run P w=.ok (cells.map (Sc.conc c)).toArray w∧closedL m.bs.length cells=true:=by
 unfold SliceHas at h
 split at h
 ·subst h
  exact ⟨by simp [TV.conc,Sc.conc,Builtin.firstCells],rfl⟩
 ·rename_i b o _ _
  split at h
  ·rename_i x hx
   obtain ⟨e,hlen⟩:=takeAt_spec h
   refine ⟨?_,?_⟩
   ·have:=run_loadCells (P:=P) (w:=w) (p:=⟨c.ι b,o,none⟩) (vs:=cells.map (Sc.conc c)) (fun j v hv=>by
     rw [List.getElem?_map] at hv
     simp only [Option.map_eq_some_iff] at hv
     obtain ⟨s,hs,rfl⟩:=hv
     have:x.cells[o+j]?=some s:=by
      rw [e,List.getElem?_take] at hs
      split at hs
      ·simpa using hs
      ·cases hs
     rw [addr_off]
     exact hr.cell hx this)
    simp only [TV.conc,Sc.conc,Option.map_some,SP.conc,Builtin.firstCells,hn]
    simpa [hk] using this
   ·rw [e]
    exact closedL_iff.2 fun s hs=>closedL_iff.1 (hr.cl b x hx) s (List.mem_of_mem_drop (List.mem_of_mem_take hs))
  ·exact h.elim
 ·rename_i a _ _
  obtain ⟨h1,h2,h3⟩:=h
  refine ⟨?_,closedL_mono (Nat.zero_le _) h2⟩
  have ag0:Agree 0 Con0 c:=fun b hb=>absurd hb (Nat.not_lt_zero b)
  have:=run_loadCells (P:=P) (w:=w) (p:=a) (vs:=cells.map (Sc.conc c)) (fun j v hv=>by
   rw [List.getElem?_map] at hv
   simp only [Option.map_eq_some_iff] at hv
   obtain ⟨s,hs,rfl⟩:=hv
   rw [Sc.conc_agree ag0 (closedL_iff.1 h2 s (List.mem_of_getElem? hs))]
   exact bcell_in (baseIn_or hr.baseA hr.baseN) (h3 j s hs))
  simp only [TV.conc,Sc.conc,Option.map_some,SP.conc,Builtin.firstCells,hn]
  simpa [hk] using this
 ·exact h.elim

theorem lenS_conc {s:TV} {n:Nat} (h:lenS s=some n):∃ p cap,s.conc c=.slice p n cap:=by
 unfold lenS at h
 split at h
 ·simp only [Option.some.injEq] at h
  subst h
  exact ⟨_,_,rfl⟩
 ·cases h

theorem lenS_run {s:TV} {n:Nat} (h:lenS s=some n):(Builtin.lenOf (s.conc c)).run P w=.ok n w:=by
 obtain ⟨p,cap,e⟩:=lenS_conc (c:=c) h
 simp [e,Builtin.lenOf]

theorem Rel.grow (h:Rel A c m w) {b:Nat} {x:Blk} {vs:List Sc} {cap es:Nat} (hx:nth m.bs b=some x) (hv:closedL m.bs.length vs=true) (hcap:x.cells.length+vs.length≤cap*es)
  (hc:if x.grows then x.es=cap*es else x.cells.length=cap*es) :
  ∃ w',(storeCells ⟨c.ι b,x.cells.length,none⟩ (vs.map (Sc.conc c))).run P w=.ok () w' ∧
   Rel A (c.add m.bs.length (c.ι b) 0) ⟨setB m.bs b none++[some ⟨x.cells++vs,x.elem,cap*es,true⟩],m.N⟩ w' ∧
   Since c m w (c.add m.bs.length (c.ι b) 0) ⟨setB m.bs b none++[some ⟨x.cells++vs,x.elem,cap*es,true⟩],m.N⟩ w':=by
 obtain ⟨junk,h1,h2,h3⟩:=h.blk b _ hx
 have hb:=nth_lt hx
 have hjl:x.cells.length+junk.length=cap*es:=by
  cases hg:x.grows with
  | true=>rw [hg] at hc; rw [h3 hg]; exact hc
  | false=>rw [hg] at hc; rw [h2 hg]; simpa using hc
 have hrun:=run_storeCells (P:=P) (fz:=(0,0)) (vs.map (Sc.conc c)) 0 x.cells.length w _ h1 (by simp; omega) (by
  intro v hv'
  obtain ⟨s,hs,rfl⟩:=List.mem_map.1 hv'
  exact Sc.conc_one c (closedL_iff.1 hv s hs))
 have hcells:((x.cells.map (Sc.conc c)++junk).toArray.toList.take (x.cells.length+0)++vs.map (Sc.conc c)++(x.cells.map (Sc.conc c)++junk).toArray.toList.drop (x.cells.length+0+(vs.map (Sc.conc c)).length)) =
   (x.cells++vs).map (Sc.conc c)++junk.drop vs.length:=by
  simp only [Nat.add_zero,List.map_append,List.length_map]
  rw [List.take_append_of_le_length (by simp),List.take_of_length_le (by simp),List.drop_append]
  congr 1
  rw [List.drop_eq_nil_of_le (by simp)]
  simp
 rw [hcells] at hrun
 refine ⟨_,hrun,?_⟩
 have hag:=Con.add_agree c m.bs.length (c.ι b) 0
 have hι:∀ d,d<m.bs.length→(c.add m.bs.length (c.ι b) 0).ι d=c.ι d:=fun d hd=>(hag d hd).1
 have hlast:(c.add m.bs.length (c.ι b) 0).ι m.bs.length=c.ι b:=by simp [Con.add]
 have hnth:∀ d y,nth (setB m.bs b none++[some ⟨x.cells++vs,x.elem,cap*es,true⟩]) d=some y→(d<m.bs.length∧d≠b∧nth m.bs d=some y)∨(d=m.bs.length∧y=⟨x.cells++vs,x.elem,cap*es,true⟩):=fun d y hy=>by
  have hlt:=nth_lt hy
  simp only [List.length_append,List.length_cons,List.length_nil,length_setB] at hlt
  by_cases hd:d<m.bs.length
  ·rw [nth_append_lt (by simpa using hd)] at hy
   exact .inl ⟨hd,nth_setB_none hy⟩
  ·have:d=m.bs.length:=by omega
   subst this
   have hl:nth (setB m.bs b none++[some ⟨x.cells++vs,x.elem,cap*es,true⟩]) (setB m.bs b none).length=some ⟨x.cells++vs,x.elem,cap*es,true⟩:=nth_append_last
   rw [length_setB] at hl
   rw [hl] at hy
   exact .inr ⟨rfl,by simpa using hy.symm⟩
 have keepB:∀ B:Base,BaseIn B w→(∀ o,¬ B (c.ι b) o)→BaseIn B { w with heap:=w.heap.setIfInBounds (c.ι b) (.cells ((x.cells++vs).map (Sc.conc c)++junk.drop vs.length).toArray x.elem (0,0)) }:=fun B hB hs r o' hr=>by
  simp only [Array.getElem?_setIfInBounds]
  rw [if_neg (fun e'=>by subst e'; exact hs _ hr)]
  exact hB r o' hr
 constructor
 ·refine ⟨fun d y hy=>?_,fun d y hy=>?_,fun d d' y z hy hz e=>?_,fun d hd=>?_,keepB _ h.baseA (fun o'=>h.sepA b _ o' hx),keepB _ h.baseN (fun o'=>h.sepN b _ o' hx),fun d y o hy=>?_,fun d y o hy=>?_⟩
  ·rcases hnth d y hy with ⟨hd,hne,hy⟩ | ⟨rfl,rfl⟩
   ·obtain ⟨junk',k1,k2,k3⟩:=h.blk d y hy
    refine ⟨junk',?_,k2,k3⟩
    rw [hι d hd,concL_agree hag (h.cl d y hy)]
    simp only [Array.getElem?_setIfInBounds]
    rw [if_neg (fun e'=>hne (h.inj d b y _ hy hx e'.symm))]
    exact k1
   ·refine ⟨junk.drop vs.length,?_,(fun hg=>by cases hg),fun _=>?_⟩
    ·rw [hlast,concL_agree hag (by
      refine closedL_iff.2 fun s hs=>?_
      rcases List.mem_append.1 hs with hs | hs
      ·exact closedL_iff.1 (h.cl b x hx) s hs
      ·exact closedL_iff.1 hv s hs)]
     simp only [Array.getElem?_setIfInBounds,if_true]
     rw [if_pos (h.lt b hb)]
    ·simp only [List.length_append,List.length_drop]; omega
  ·have hlen:(setB m.bs b none++[some (⟨x.cells++vs,x.elem,cap*es,true⟩:Blk)]).length=m.bs.length+1:=by simp
   rw [hlen]
   rcases hnth d y hy with ⟨hd,hne,hy⟩ | ⟨rfl,rfl⟩
   ·exact closedL_mono (by omega) (h.cl d y hy)
   ·refine closedL_iff.2 fun s hs=>?_
    rcases List.mem_append.1 hs with hs | hs
    ·exact Sc.closed_mono (by omega) (closedL_iff.1 (h.cl b x hx) s hs)
    ·exact Sc.closed_mono (by omega) (closedL_iff.1 hv s hs)
  ·rcases hnth d y hy with ⟨hd,hne,hy⟩ | ⟨rfl,rfl⟩<;>rcases hnth d' z hz with ⟨hd',hne',hz⟩ | ⟨rfl,rfl⟩
   ·rw [hι d hd,hι d' hd'] at e; exact h.inj d d' y z hy hz e
   ·rw [hι d hd,hlast] at e; exact absurd (h.inj d b y x hy hx e) hne
   ·rw [hι d' hd',hlast] at e; exact absurd (h.inj d' b z x hz hx e.symm) hne'
   ·rfl
  ·simp only [List.length_append,List.length_cons,List.length_nil,length_setB] at hd
   simp only [Array.size_setIfInBounds]
   by_cases hlt:d<m.bs.length
   ·rw [hι d hlt]; exact h.lt d hlt
   ·have:d=m.bs.length:=by omega
    subst this; rw [hlast]; exact h.lt b hb
  ·rcases hnth d y hy with ⟨hd,hne,hy⟩ | ⟨rfl,rfl⟩
   ·rw [hι d hd]; exact h.sepA d y o hy
   ·rw [hlast]; exact h.sepA b x o hx
  ·rcases hnth d y hy with ⟨hd,hne,hy⟩ | ⟨rfl,rfl⟩
   ·rw [hι d hd]; exact h.sepN d y o hy
   ·rw [hlast]; exact h.sepN b x o hx
 ·refine ⟨by simp,fun d hd=>hag d hd,⟨by simp,rfl,rfl,rfl⟩,fun r hr hno=>?_,fun d y hy h1=>?_,fun d y hy hd=>?_,fun _ _ hn=>.inl hn⟩
  ·simp only [Array.getElem?_setIfInBounds]
   rw [if_neg (hno b _ hx)]
  ·rcases hnth d y hy with ⟨hd,_⟩ | ⟨rfl,_⟩
   ·omega
   ·right; exact ⟨b,x,hx,by rw [hlast]⟩
  ·rcases hnth d y hy with ⟨_,_,hy⟩ | ⟨rfl,_⟩
   ·exact ⟨y,hy⟩
   ·omega

theorem next_le {need cap eb:Nat} (h:(2*need+256)*eb≤281474976710656) (hc:cap<need):¬ (Builtin.nextslicecap need cap*eb > 2^48):=by
 have g:∀ r c,c≤need→Builtin.growBy need r c≤2*need+256:=by
  intro r
  induction r with
  | zero=>intro c hc; simp only [Builtin.growBy]; omega
  | succ r ih=>
   intro c hc
   simp only [Builtin.growBy]
   split
   ·omega
   ·by_cases h2:c+(c+768)/4≤need
    ·exact ih _ h2
    ·have:∀ r,Builtin.growBy need r (c+(c+768)/4)=c+(c+768)/4:=by
      intro r
      cases r with
      | zero=>rfl
      | succ r=>simp only [Builtin.growBy]; rw [if_pos (by omega)]
     rw [this]; omega
 have:Builtin.nextslicecap need cap≤2*need+256:=by
  unfold Builtin.nextslicecap
  split
  ·omega
  ·split
   ·omega
   ·exact g 4 cap (by omega)
 have:=Nat.mul_le_mul_right eb this
 omega

theorem run_choose_cap {need old:Nat} {el:TypeId} (_hn:need<2^63) (w:World):∃ cap,need≤cap∧(choose (.appendCap need old el)).run P w=.ok cap { w with drawn:=w.drawn+1 }:=by
 refine ⟨need+w.tape w.drawn (.appendCap need old el)%(2^63-need),Nat.le_add_right _ _,?_⟩
 simp [choose,Sem.run,Question.forced,Question.cut]

theorem run_askRoom (n:Nat) (w:World):(askRoom n).run P w=.ok () w:=by
 unfold askRoom mark
 split<;>simp [Sem.run]

end
end Go.Hv

namespace Go.Hv
open Go.Ev

def PrimOk (P:Program) (f:FuncId) (p:Prim):Prop:=∀ W0:World,Ev.PrimOk P W0 f p

structure CfgOk (G:Cfg):Prop where
 tys:TysOk G.P G.T
 prim:∀ f p,G.prim f=some p→PrimOk G.P f p
 mixed:G.P.follows .mixedOrders=true

section
variable {G:Cfg} {c:Con} {m:HM} {e:Env} {a:Act} {w w':World}

def OpGoes (G:Cfg) (o:Oper) (c:Con) (m:HM) (a:Act) (w:World) (K:TV→HM→Prop):Prop:=
 ∀ (next:Act→World→Prop) (Q:Exit→Act→World→Prop),
  (∀ v m' c' w',Rel G.A c' m' w'→Since c m w c' m' w'→v.closed m'.bs.length=true→K v m'→next (a.put o.dst (v.conc c')) w')→o.wp G.P a w next Q

theorem OpGoes.of_value {o:Oper} {K:TV→HM→Prop} {v:TV} {m':HM} {c':Con} {w':World} (h:(execOp a.eval o).run G.P w=.ok (.value (v.conc c')) w')
  (hr:Rel G.A c' m' w') (hs:Since c m w c' m' w') (hv:v.closed m'.bs.length=true) (hK:K v m'):OpGoes G o c m a w K:=by
 intro next Q hn
 unfold Oper.wp
 rw [h]
 exact hn v m' c' w' hr hs hv hK

theorem OpGoes.of_skip {o:Oper} {K:TV→HM→Prop} {m':HM} {c':Con} {w':World} (h:(execOp a.eval o).run G.P w=.ok .skip w')
  (hr:Rel G.A c' m' w') (hs:Since c m w c' m' w') (hK:K (.tup []) m'):OpGoes G o c m a w K:=by
 intro next Q hn
 unfold Oper.wp
 rw [h]
 exact hn (.tup []) m' c' w' hr hs rfl hK

theorem OpGoes.of_enter {o:Oper} {K:TV→HM→Prop} {f:FuncId} {A:Array Value} (h:(execOp a.eval o).run G.P w=.ok (.enter f A) w)
  (hc:Calls G.P f A w fun e w'=>∃ v m' c',e=.returned (v.conc c')∧Rel G.A c' m' w'∧Since c m w c' m' w'∧v.closed m'.bs.length=true∧K v m'):OpGoes G o c m a w K:=by
 intro next Q hn
 unfold Oper.wp
 rw [h]
 refine hc.mono fun e w' hw=>?_
 obtain ⟨v,m',c',rfl,hr,hs,hv,hR⟩:=hw
 exact hn v m' c' w' hr hs hv hR

theorem Rel.as0 (w:World) (c:Con):Ev.RelM w c [] w:=
 ⟨fun b x hx=>by simp [nth] at hx,fun b x hx=>by simp [nth] at hx,fun b d x y hx=>by simp [nth] at hx,fun b hb=>by simp at hb,
  fun b hb=>by simp at hb,fun _ _=>rfl,Nat.le_refl _,rfl,rfl,rfl⟩

theorem calls_fn {P:Program} {f:FuncId} {args:List TV} {v:TV} (h:Ev.Fn P f args v) (ha:closedTs 0 args=true) (c:Con) (w:World) :
  Calls P f (args.map (TV.conc c)).toArray w fun e w'=>e=.returned (v.conc c)∧Same w w'∧∀ r,r<w.heap.size→w'.heap[r]?=w.heap[r]?:=by
 refine ((h.2 w []).2 c w (Rel.as0 w c) (closedTs_iff.1 ha)).mono fun e w' hh=>?_
 obtain ⟨v',m',c',h1,h2,h3,h4,rfl,rfl⟩:=hh
 have ag:Agree 0 c' c:=fun b hb=>absurd hb (Nat.not_lt_zero b)
 exact ⟨by rw [h1,TV.conc_agree ag h.1],⟨h2.size,h2.os,h2.tape,h2.output⟩,h2.ext⟩

theorem Since.still (hs:Same w w') (hk:∀ r,r<w.heap.size→w'.heap[r]?=w.heap[r]?) {N1:Base} (hf:∀ r o,N1 r o→m.N r o∨w.heap.size≤r):Since c m w c ⟨m.bs,N1⟩ w':=
 ⟨Nat.le_refl _,fun _ _=>⟨rfl,rfl⟩,hs,fun r hr _=>hk r hr,fun _b _x h1 h2=>absurd (nth_lt h1) (Nat.not_lt.2 h2),fun _b x h1 _=>⟨x,h1⟩,fun r o hn=>(hf r o hn).elim .inl fun h=>.inr (.inl h)⟩

theorem baseIn_keep {B:Base} (h:BaseIn B w) (hk:∀ r,r<w.heap.size→w'.heap[r]?=w.heap[r]?):BaseIn B w':=fun r o hr=>by
 have:=h r o hr
 rw [hk r (Array.getElem?_eq_some_iff.1 this).1]; exact this

theorem SP.conc_ext {p:SP} {n:Nat}:(SP.ext c p).conc Con0=p.conc c∧(SP.ext c p).closed n=true:=by cases p<;>exact ⟨rfl,rfl⟩

theorem Sc.conc_ext {s:Sc} {n:Nat} (h:s.closed n=true):(Sc.ext c s).conc Con0=s.conc c∧(Sc.ext c s).closed 0=true:=by
 unfold Sc.ext
 split
 ·rename_i p; exact ⟨by simp [Sc.conc,(SP.conc_ext (c:=c) (p:=p) (n:=0)).1],(SP.conc_ext (c:=c) (p:=p)).2⟩
 ·rename_i p l k; exact ⟨by simp [Sc.conc,(SP.conc_ext (c:=c) (p:=p) (n:=0)).1],(SP.conc_ext (c:=c) (p:=p)).2⟩
 ·exact ⟨rfl,rfl⟩
 ·rename_i h1 h2 h3
  cases s with
  | ptr p=>cases p with
   | none=>exact ⟨rfl,rfl⟩
   | some p=>exact absurd rfl (h1 p)
  | slice p l k=>cases p with
   | none=>exact ⟨rfl,rfl⟩
   | some p=>exact absurd rfl (h2 p l k)
  | buf b l=>exact absurd rfl (h3 b l)
  | raw v=>exact ⟨rfl,h⟩
  | _=>exact ⟨rfl,rfl⟩

theorem extL_conc {n:Nat}:∀ {l:List Sc},closedL n l=true→(extL c l).map (Sc.conc Con0)=l.map (Sc.conc c)∧closedL 0 (extL c l)=true
 | [],_=>⟨rfl,rfl⟩
 | s::l,h=>by
  have h1:=closedL_iff.1 h s (by simp)
  have h2:closedL n l=true:=closedL_iff.2 fun s hs=>closedL_iff.1 h s (by simp [hs])
  obtain ⟨e1,e2⟩:=extL_conc h2
  obtain ⟨e3,e4⟩:=Sc.conc_ext (c:=c) h1
  exact ⟨by simp [extL,e1,e3],by simp [extL,closedL,e2,e4]⟩

theorem TC.conc_ext {n:Nat} {v:TC} (h:v.closed n=true):(TC.ext c v).conc Con0=v.conc c∧(TC.ext c v).closed 0=true:=by
 cases v with
 | one s=>exact Sc.conc_ext h
 | agg l=>exact ⟨by simp [TC.ext,TC.conc,(extL_conc (c:=c) h).1],(extL_conc (c:=c) h).2⟩

theorem extT_conc {n:Nat}:∀ {l:List TC},closedT n l=true→(extT c l).map (TC.conc Con0)=l.map (TC.conc c)∧closedT 0 (extT c l)=true
 | [],_=>⟨rfl,rfl⟩
 | s::l,h=>by
  have h1:=closedT_iff.1 h s (by simp)
  have h2:closedT n l=true:=closedT_iff.2 fun s hs=>closedT_iff.1 h s (by simp [hs])
  obtain ⟨e1,e2⟩:=extT_conc h2
  obtain ⟨e3,e4⟩:=TC.conc_ext (c:=c) h1
  exact ⟨by simp [extT,e1,e3],by simp [extT,closedT,e2,e4]⟩

theorem TV.conc_ext {n:Nat} {v:TV} (h:v.closed n=true):(TV.ext c v).conc Con0=v.conc c∧(TV.ext c v).closed 0=true:=by
 cases v with
 | one s=>exact Sc.conc_ext h
 | agg l=>exact ⟨by simp [TV.ext,TV.conc,(extL_conc (c:=c) h).1],(extL_conc (c:=c) h).2⟩
 | tup l=>exact ⟨by simp [TV.ext,TV.conc,(extT_conc (c:=c) h).1],(extT_conc (c:=c) h).2⟩

theorem extA_conc {n:Nat}:∀ {l:List TV},(∀ v∈l,v.closed n=true)→(extA c l).map (TV.conc Con0)=l.map (TV.conc c)
 | [],_=>rfl
 | v::l,h=>by
  have ih:(extA c l).map (TV.conc Con0)=l.map (TV.conc c):=extA_conc fun u hu=>h u (List.mem_cons_of_mem _ hu)
  have h1:=(TV.conc_ext (c:=c) (h v List.mem_cons_self)).1
  simp [extA,ih,h1]

theorem Rel.lent (hr:Rel G.A c m w):Lent c (fun r o=>w.heap[r]?=some o) m.bs:=fun b x hx=>by
 obtain ⟨junk,h1,_⟩:=hr.blk b x hx
 exact ⟨junk,by rw [(extL_conc (hr.cl b x hx)).1]; exact h1⟩

theorem acall_sound (hG:CfgOk G) (hr:Rel G.A c m w) (hf:Fits c m.bs.length e a) {o:Oper} {f:FuncId} {xs:Array Operand} {ts:Array TypeId} (ho:o.op=.call { callee:=.value (.func f),args:=xs,argTypes:=ts })
  {vs:List TV} (hvs:getOps e xs.toList=some vs) {K:TV→HM→Prop} (h:acall G f vs m K):OpGoes G o c m a w K:=by
 obtain ⟨hargs,hcl⟩:=getOps_sound hf hvs
 have hA:xs.map a.eval=(vs.map (TV.conc c)).toArray:=by
  apply Array.ext'
  simpa using hargs
 have hrun:(execOp a.eval o).run G.P w=(callFunc f (xs.map a.eval)).run G.P w:=by
  simp [execOp,ho,resolve,Act.eval,Deferred.ofValue,invoke]
 rw [hA] at hrun
 have hle:Base.le (G.A.or m.N) (fun r o=>w.heap[r]?=some o):=baseIn_or hr.baseA hr.baseN
 unfold acall at h
 split at h
 ·rename_i p hp
  obtain ⟨v,hK,_,hc,h1 | h1⟩:=hG.prim f p hp w vs _ h
  ·exact .of_value (by rw [hrun,h1]) hr (Since.refl c m w) (hc _) hK
  ·refine .of_enter (by rw [hrun,(h1 []).1]) ?_
   have h0:=(h1 []).2 c w (Rel.as0 w c)
   have hcl0:∀ v∈vs,v.closed ([]:Mem).length=true:=by
    unfold primC at h
    split at h<;>first | exact h.elim | (intro v hv; simp at hv; rcases hv with rfl | rfl | rfl<;>rfl) | (intro v hv; simp at hv; rcases hv with rfl | rfl<;>rfl)
   refine (h0 hcl0).mono fun e w' hh=>?_
   obtain ⟨v',m',c',h2,h3,_,_,rfl,rfl⟩:=hh
   have ag:Agree 0 c' c:=fun b hb=>absurd hb (Nat.not_lt_zero b)
   have hsame:Same w w':=⟨h3.size,h3.os,h3.tape,h3.output⟩
   exact ⟨v',⟨m.bs,m.N⟩,c,by rw [h2,TV.conc_agree ag (hc 0)],hr.more h3.ext h3.size (baseIn_keep hr.baseN h3.ext) (fun r o hn=>.inl hn),Since.still hsame h3.ext (fun r o hn=>.inl hn),hc _,hK⟩
 ·split at h
  ·obtain ⟨v,h1,h2,hK⟩:=h
   refine .of_enter (by rw [hrun,(h1.2 w []).1]) ((calls_fn h1 h2 c w).mono fun e w' ⟨h3,h4,h5⟩=>?_)
   exact ⟨v,⟨m.bs,m.N⟩,c,h3,hr.more h5 h4.size (baseIn_keep hr.baseN h5) (fun r o hn=>.inl hn),Since.still h4 h5 (fun r o hn=>.inl hn),TV.closed_mono (Nat.zero_le _) h1.1,hK⟩
  ·obtain ⟨K0,h1,_,h3⟩:=h
   have hc:=h1 c _ hle hr.lent
   refine .of_enter (by rw [hrun,hc.1]) ?_
   have:=hc.2 w (fun _ _ h=>h)
   rw [extA_conc hcl] at this
   refine this.mono fun e w' ⟨v,N',e1,e2,e3,e4,e5,e6,e7⟩=>?_
   have hag:Agree 0 Con0 c:=fun b hb=>absurd hb (Nat.not_lt_zero b)
   have hN:BaseIn (m.N.or N') w':=baseIn_or (baseIn_keep hr.baseN e6) e3
   exact ⟨v,⟨m.bs,m.N.or N'⟩,c,by rw [e1,TV.conc_agree hag e2],hr.more e6 e5.size hN (fun r o hn=>hn.elim .inl fun h=>.inr (e4 r o h)),Since.still e5 e6 (fun r o hn=>hn.elim .inl fun h=>.inr (e4 r o h)),
    TV.closed_mono (Nat.zero_le _) e2,h3 v N' e2 e7 _ (fun _ _ h=>h)⟩
  ·obtain ⟨K0,h1,_,h3⟩:=h
   have hc:=h1 c _ hle hr.lent
   refine .of_enter (by rw [hrun,hc.1]) ?_
   have:=hc.2 w (fun _ _ h=>h)
   rw [extA_conc hcl] at this
   refine this.mono fun e w' ⟨r,n,cap,k,N',junk,e1,e2,e3,e4,e5,e6,e7,e8,e9,e10,e11,e12⟩=>?_
   have hN:BaseIn (m.N.or N') w':=baseIn_or (baseIn_keep hr.baseN e11) e8
   have hK:=h3 n cap k N' e5 e12 _ (fun _ _ h=>h)
   rw [snoc_eq] at hK
   have hr1:=hr.more e11 e10.size hN (fun r o hn=>hn.elim .inl fun h=>.inr (e9 r o h))
   have hs1:Since c m w c ⟨m.bs,m.N.or N'⟩ w':=Since.still e10 e11 (fun r o hn=>hn.elim .inl fun h=>.inr (e9 r o h))
   have hlt:r<w'.heap.size:=(Array.getElem?_eq_some_iff.1 e2).1
   have hag:=Con.add_agree c m.bs.length r 0
   have hι:∀ b,b<m.bs.length→(c.add m.bs.length r 0).ι b=c.ι b:=fun b hb=>(hag b hb).1
   have hlast:(c.add m.bs.length r 0).ι m.bs.length=r:=by simp [Con.add]
   have hnth:∀ b y,nth (m.bs++[some k]) b=some y→(b<m.bs.length∧nth m.bs b=some y)∨(b=m.bs.length∧y=k):=fun b y hy=>by
    have hl:=nth_lt hy
    simp only [List.length_append,List.length_cons,List.length_nil] at hl
    by_cases hb:b<m.bs.length
    ·rw [nth_append_lt hb] at hy; exact .inl ⟨hb,hy⟩
    ·have:b=m.bs.length:=by omega
     subst this
     rw [nth_append_last] at hy
     exact .inr ⟨rfl,by simpa using hy.symm⟩
   have ag0:Agree 0 Con0 (c.add m.bs.length r 0):=fun b hb=>absurd hb (Nat.not_lt_zero b)
   refine ⟨_,⟨m.bs++[some k],m.N.or N'⟩,c.add m.bs.length r 0,?_,?_,?_,?_,hK⟩
   ·rw [e1]; simp [TV.conc,Sc.conc,SP.conc,hlast]
   ·refine ⟨fun b y hy=>?_,fun b y hy=>?_,fun b d y z hy hz e=>?_,fun b hb=>?_,hr1.baseA,hr1.baseN,fun b y o hy=>?_,fun b y o hy=>?_⟩
    ·rcases hnth b y hy with ⟨hb,hy⟩ | ⟨rfl,rfl⟩
     ·rw [hι b hb,concL_agree hag (hr.cl b y hy)]; exact hr1.blk b y hy
     ·exact ⟨junk,by rw [hlast,concL_agree ag0 e5]; exact e2,e3,e4⟩
    ·rcases hnth b y hy with ⟨hb,hy⟩ | ⟨rfl,rfl⟩
     ·exact closedL_mono (by simp) (hr.cl b y hy)
     ·exact closedL_mono (Nat.zero_le _) e5
    ·rcases hnth b y hy with ⟨hb,hy⟩ | ⟨rfl,rfl⟩<;>rcases hnth d z hz with ⟨hd,hz⟩ | ⟨rfl,rfl⟩
     ·rw [hι b hb,hι d hd] at e; exact hr.inj b d y z hy hz e
     ·rw [hι b hb,hlast] at e; have:=hr.lt b hb; omega
     ·rw [hι d hd,hlast] at e; have:=hr.lt d hd; omega
     ·rfl
    ·simp only [List.length_append,List.length_cons,List.length_nil] at hb
     by_cases hlt':b<m.bs.length
     ·rw [hι b hlt']; exact hr1.lt b hlt'
     ·have:b=m.bs.length:=by omega
      subst this; rw [hlast]; exact hlt
    ·rcases hnth b y hy with ⟨hb,hy⟩ | ⟨rfl,rfl⟩
     ·rw [hι b hb]; exact hr1.sepA b y o hy
     ·rw [hlast]; intro hA
      have:=(Array.getElem?_eq_some_iff.1 (hr.baseA _ _ hA)).1; omega
    ·rcases hnth b y hy with ⟨hb,hy⟩ | ⟨rfl,rfl⟩
     ·rw [hι b hb]; exact hr1.sepN b y o hy
     ·rw [hlast]; intro hA
      rcases hA with hA | hA
      ·have:=(Array.getElem?_eq_some_iff.1 (hr.baseN _ _ hA)).1; omega
      ·exact e7 o hA
   ·refine ⟨by simp,fun b hb=>hag b hb,e10,fun r' hr' hno=>e11 r' hr',fun b y hy h1=>?_,fun b y hy hb=>?_,hs1.newN⟩
    ·rcases hnth b y hy with ⟨hb,_⟩ | ⟨rfl,_⟩
     ·omega
     ·left; rw [hlast]; exact e6
    ·rcases hnth b y hy with ⟨_,hy⟩ | ⟨rfl,_⟩
     ·exact ⟨y,hy⟩
     ·omega
   ·simp [TV.closed,Sc.closed,SP.closed]
  ·obtain ⟨R,h1,_,h3⟩:=h
   exact .of_enter (by rw [hrun,h1.1]) ((h1.2 c w hr hcl).mono fun e w' ⟨v,m',c',e1,e2,e3,e4,e5⟩=>⟨v,m',c',e1,e2,e3,e4,h3 v m' e5⟩)

theorem aload_run (hG:CfgOk G) (hr:Rel G.A c m w) {t:TypeId} {x:TV} (_hx:x.closed m.bs.length=true) {K:TV→HM→Prop} (h:aload G t x m K) :
  ∃ p v,x.conc c=.pointer (some p)∧(loadVar t p).run G.P w=.ok (v.conc c) w∧v.closed m.bs.length=true∧K v m:=by
 unfold aload at h
 split at h
 ·rename_i i b o ht
  split at h
  ·rename_i k hk
   split at h
   ·rename_i v hv
    exact ⟨_,v,rfl,run_loadVar (hG.tys _ _ ht) hr hk hv,partV_closed hv (hr.cl b k hk),h⟩
   ·cases h
  ·cases h
 ·rename_i i p ht
  obtain ⟨v,hv,hK⟩:=h
  obtain ⟨h1,h2⟩:=run_loadVar_ext (c:=c) (hG.tys _ _ ht) (baseIn_or hr.baseA hr.baseN) hv
  exact ⟨_,v,rfl,h1,TV.closed_mono (Nat.zero_le _) h2,hK⟩
 ·cases h

end
end Go.Hv

namespace Go.Hv
open Go.Ev
section
variable {G:Cfg} {c:Con} {m:HM} {e:Env} {a:Act} {w:World}

theorem zeroCells_size (z:Array Value) (n:Nat):(Builtin.zeroCells z n).size=n*z.size:=by simp [Builtin.zeroCells]

theorem argTypes_at {ts:Array TypeId} {t:TypeId} {l:List TypeId} (h:ts.toList=t::l):ts[0]?=some t:=by rw [← Array.getElem?_toList,h]; rfl
theorem argTypes_at1 {ts:Array TypeId} {t t2:TypeId} {l:List TypeId} (h:ts.toList=t::t2::l):ts[1]?=some t2:=by rw [← Array.getElem?_toList,h]; rfl

theorem Since.sub {c':Con} {m':HM} {w':World} (h:Since c m w c' m' w') {bs:Mem} (hs:∀ b x,nth bs b=some x→nth m'.bs b=some x) (hl:bs.length=m'.bs.length):Since c m w c' ⟨bs,m'.N⟩ w':=
 ⟨by simp only [hl]; exact h.le,h.agree,h.same,h.keep,fun b x hx=>h.fresh b x (hs b x hx),fun b x hx=>h.live b x (hs b x hx),h.newN⟩

theorem run_append_new {P:Program} {ts:Array TypeId} {ty:TypeId} {sv yv:Value} {base:Option Addr} {n k cap0:Nat} {t t2 el es eb:Nat} {d2:TypeId} {old new _z:Array Value} {ts':List TypeId} {w0:World}
  (hts:ts.toList=t::t2::ts') (hu:P.underlying t=some (.slice el)) (hu2:P.underlying t2=some (.slice d2)) (hie:(P.info? el).isSome=true) (hse:P.cellsOf el=es) (hbe:P.bytesOf el=eb)
  (hs:sv=.slice base n cap0) (hl:(Builtin.lenOf yv).run P w=.ok k w) (hroom:cap0<n+k) (hb:CapOk (n+k) eb)
  (hold:∀ w:World,w.heap=w0.heap→(Builtin.firstCells es n sv).run P w=.ok old w) (hnew:∀ w:World,w.heap=w0.heap→(Builtin.firstCells es k yv).run P w=.ok new w)
  (hw0:w.heap=w0.heap) {zv:Value} (hz:∀ w,(zeroValue el).run P w=.ok zv w) :
  ∃ cap,n+k≤cap∧(Builtin.append_ ts ty #[sv,yv]).run P w=.ok (.slice (some ⟨w.heap.size,0,none⟩) (n+k) cap)
   { w with heap:=w.heap.push (.cells (old++new++Builtin.zeroCells zv.cells (cap-(n+k))) el),drawn:=w.drawn+1 }:=by
 have hk63:n+k<2^63:=by
  have:=Nat.mul_le_mul_left (2*(n+k)+256) hb.2
  have:=hb.1
  omega
 obtain ⟨cap,hcap,hch⟩:=run_choose_cap (P:=P) (need:=n+k) (old:=cap0) (el:=el) hk63 w
 refine ⟨cap,hcap,?_⟩
 obtain ⟨inf,hinf⟩:=Option.isSome_iff_exists.1 hie
 have hbytes:inf.bytes=eb:=by rw [← hbe]; simp [Program.bytesOf,hinf]
 have hnext:=next_le hb.1 hroom
 have hts0:=argTypes_at hts
 have hts1:=argTypes_at1 hts
 have hi63:¬ (((n+k:Nat):Int) > IntKind.i64.max∧(False∨inf.bytes=0)):=by
  have:IntKind.i64.max=9223372036854775807:=by decide
  rw [this]
  omega
 have hnc:¬ n+k≤cap0:=by omega
 have h1:=hold { w with drawn:=w.drawn+1 } hw0
 have h2:=hnew { w with drawn:=w.drawn+1 } hw0
 subst hs
 rw [← hbytes] at hnext
 unfold Builtin.append_
 simp only [hts0,hts1]
 simp only [Sem.run_bind,Sem.run_pure,r_underlying hu,r_underlying hu2,r_sizeOf hie,hse,Result.andThen_ok,hl,if_neg hnc,r_typeInfo hinf,
  Bool.false_eq_true,if_false,Bool.not_false,if_true,List.getElem?_toArray,List.getElem?_cons_zero,List.getElem?_cons_succ]
 rw [if_neg hi63]
 simp only [Sem.run_bind,Result.andThen_ok,r_typeInfo hinf]
 rw [if_neg hnext]
 simp only [Sem.run_bind,Sem.run_pure,Result.andThen_ok,r_typeInfo hinf,hch,run_askRoom,h1,h2,newRow,run_newObj,hz]

theorem run_append_in {P:Program} {ts:Array TypeId} {ty:TypeId} {sv yv:Value} {p:Addr} {n k cap0:Nat} {t t2 el es:Nat} {d2:TypeId} {new:Array Value} {ts':List TypeId} {w':World}
  (hts:ts.toList=t::t2::ts') (hu:P.underlying t=some (.slice el)) (hu2:P.underlying t2=some (.slice d2)) (hie:(P.info? el).isSome=true) (hse:P.cellsOf el=es)
  (hs:sv=.slice (some p) n cap0) (hl:(Builtin.lenOf yv).run P w=.ok k w) (hroom:n+k≤cap0)
  (hnew:(Builtin.firstCells es k yv).run P w=.ok new w) (hst:(storeCells (p.add (n*es)) new.toList).run P w=.ok () w') :
  (Builtin.append_ ts ty #[sv,yv]).run P w=.ok (.slice (some p) (n+k) cap0) w':=by
 have hts0:=argTypes_at hts
 have hts1:=argTypes_at1 hts
 subst hs
 unfold Builtin.append_
 simp only [hts0,hts1]
 simp only [Sem.run_bind,Sem.run_pure,r_underlying hu,r_underlying hu2,r_sizeOf hie,hse,Result.andThen_ok,hl,if_pos hroom,
  Bool.false_eq_true,if_false,Bool.not_false,if_true,List.getElem?_toArray,List.getElem?_cons_zero,List.getElem?_cons_succ]
 simp only [hnew,Result.andThen_ok,hst]

theorem nbeq0 {k:Nat} (h:Nat.beq k 0=true):k=0:=Nat.eq_of_beq_eq_true h

theorem run_append_nil {P:Program} {ts:Array TypeId} {ty:TypeId} {yv:Value} {t t2 el es:Nat} {d2:TypeId} {new:Array Value} {ts':List TypeId}
  (hts:ts.toList=t::t2::ts') (hu:P.underlying t=some (.slice el)) (hu2:P.underlying t2=some (.slice d2)) (hie:(P.info? el).isSome=true) (hse:P.cellsOf el=es)
  (hl:(Builtin.lenOf yv).run P w=.ok 0 w) (hnew:(Builtin.firstCells es 0 yv).run P w=.ok new w) :
  (Builtin.append_ ts ty #[.slice none 0 0,yv]).run P w=.ok (.slice none 0 0) w:=by
 have hts0:=argTypes_at hts
 have hts1:=argTypes_at1 hts
 unfold Builtin.append_
 simp only [hts0,hts1]
 simp only [Sem.run_bind,Sem.run_pure,r_underlying hu,r_underlying hu2,r_sizeOf hie,hse,Result.andThen_ok,hl,if_pos (Nat.le_refl 0),Nat.add_zero,
  Bool.false_eq_true,if_false,Bool.not_false,if_true,List.getElem?_toArray,List.getElem?_cons_zero,List.getElem?_cons_succ]
 simp only [hnew,Result.andThen_ok]

theorem aappend_sound (hG:CfgOk G) (hr:Rel G.A c m w) (hf:Fits c m.bs.length e a) {o:Oper} {xs:Array Operand} {ts:Array TypeId} (ho:o.op=.call { callee:=.builtin .append,args:=xs,argTypes:=ts })
  {vs:List TV} (hvs:getOps e xs.toList=some vs) {K:TV→HM→Prop} (h:aappend G ts.toList vs m K):OpGoes G o c m a w K:=by
 obtain ⟨hargs,hcl⟩:=getOps_sound hf hvs
 unfold aappend at h
 split at h
 ·rename_i t t2 ts' x y hts
  split at h
  ·rename_i el es eb ag _ _ _ _ _ _ _ _ k ht ht2 hlen
   split at h
   ·rename_i i hi
    obtain ⟨us,hus,hul,hzl,h⟩:=h
    obtain ⟨hu,hie,hue,hse,hbe,_⟩:=(hG.tys _ _ ht).k
    obtain ⟨hu2,_⟩:=(hG.tys _ _ ht2).k
    obtain ⟨inf,hinf⟩:=Option.isSome_iff_exists.1 hie
    have hrow:=hG.tys _ _ hi
    have hA:xs.map a.eval=#[x.conc c,y.conc c]:=by
     apply Array.ext'
     simpa using hargs
    have hly:=lenS_run (P:=G.P) (c:=c) (w:=w) hlen
    have hrun:(execOp a.eval o).run G.P w=(do pure (.value (← Builtin.append_ ts o.type #[x.conc c,y.conc c])):Sem Next).run G.P w:=by
     simp only [execOp,ho,resolve,hA,pure_bind,invoke,builtin]
    obtain ⟨z,hz1,hz2⟩:∃ z,(∀ w,(zeroValue el).run G.P w=.ok z w)∧z.cells.size=es:=by
     obtain ⟨z,h1,h2⟩:=hrow.zero c w
     refine ⟨z,fun w'=>?_,by rw [h2]; simp [hzl]⟩
     obtain ⟨z',h3,h4⟩:=hrow.zero c w'
     have:(zeroValue el).run G.P w=.ok z w:=h1
     unfold zeroValue at this h3 ⊢
     simp only [Sem.run_bind,r_typeInfo hinf,Result.andThen_ok] at this h3 ⊢
     cases hzz:inf.zero with
     | none=>rw [hzz] at this; simp [unsupported] at this
     | some v=>rw [hzz] at this; simp only [Sem.run_pure,Result.ok.injEq,and_true] at this ⊢; exact this
    have hfc:∀ w':World,w'.heap=w.heap→(Builtin.firstCells es k (y.conc c)).run G.P w'=.ok (us.map (Sc.conc c)).toArray w':=fun w' hw'=>by
     have hr':Rel G.A c m w':=by
      obtain ⟨h1,h2,h3,h4,h5,h6,h7,h8⟩:=hr
      exact ⟨by rw [hw']; exact h1,h2,h3,by rw [hw']; exact h4,by unfold BaseIn; rw [hw']; exact h5,by unfold BaseIn; rw [hw']; exact h6,h7,h8⟩
     exact (sliceHas_run (P:=G.P) hr' hus hul rfl hlen).1
    have husc:=(sliceHas_run (P:=G.P) hr hus hul rfl hlen).2
    split at h
    ·split at h
     ·rename_i hk0
      have hk0:=nbeq0 hk0
      subst hk0
      refine .of_value ?_ hr (Since.refl c m w) rfl h
      rw [hrun]
      apply run_value'
      exact run_append_nil (ty:=o.type) hts hu hu2 hie hse hly (hfc w rfl)
     obtain ⟨hb,hk0,hK⟩:=h
     obtain ⟨cap,hcap,happ⟩:=run_append_new (ty:=o.type) (base:=none) (n:=0) (k:=k) (cap0:=0) (old:=#[]) (w0:=w) (_z:=#[]) hts hu hu2 hie hse hbe rfl hly (by omega) (by simpa using hb)
      (fun w' _=>by simp [Builtin.firstCells]) hfc rfl hz1
     simp only [Nat.zero_add] at happ hcap
     have hK:=hK cap hcap
     rw [snoc_eq] at hK
     obtain ⟨hr1,hs1⟩:=hr.push' (x:=⟨us,el,cap*es,true⟩) (junk:=(Builtin.zeroCells z.cells (cap-k)).toList) husc (fun h=>by cases h) (fun _=>by
      simp only [Array.length_toList,zeroCells_size,hz2,hul]
      rw [← Nat.add_mul]; congr 1; omega) 1
     refine .of_value ?_ hr1 hs1 (by simp [TV.closed,Sc.closed,SP.closed]) hK
     rw [hrun]
     apply run_value'
     have this:(Con.add c m.bs.length w.heap.size 0).ι m.bs.length=w.heap.size:=by simp [Con.add]
     simp only [TV.conc,Sc.conc,Option.map_none,Option.map_some,SP.conc,this] at happ ⊢
     rw [happ]
     simp
     congr 2
     apply Array.ext'
     simp
    ·rename_i b n cap0
     split at h
     ·rename_i xb hxb
      obtain ⟨hxl,hncap,hxe,hgr,hb,hK⟩:=h
      have hsv:(TV.one (.slice (some (.loc b 0)) n cap0)).conc c=.slice (some ⟨c.ι b,0,none⟩) n cap0:=rfl
      have hcx:=hr.cl b xb hxb
      by_cases hroom:n+k≤cap0
      ·obtain ⟨w',hst,hr1,hs1⟩:=hr.grow (P:=G.P) (vs:=us) (cap:=cap0) (es:=es) hxb husc (by rw [hxl,hul,← Nat.add_mul]; exact Nat.mul_le_mul_right es hroom) (by
        split
        ·rename_i hg; rw [if_pos hg] at hgr; exact hgr
        ·rename_i hg; rw [if_neg hg] at hgr; rw [hgr]; exact hxl)
       have hK:=hK cap0 hroom
       rw [snoc_eq,length_setB,← hxe] at hK
       refine .of_value ?_ hr1 hs1 (by simp [TV.closed,Sc.closed,SP.closed]) hK
       rw [hrun]
       apply run_value'
       have this:(Con.add c m.bs.length (c.ι b) 0).ι m.bs.length=c.ι b:=by simp [Con.add]
       have happ:=run_append_in (ty:=o.type) (w':=w') hts hu hu2 hie hse hsv hly hroom (hfc w rfl) (by rw [addr_off,Nat.zero_add,← hxl]; exact hst)
       rw [happ]
       simp [TV.conc,Sc.conc,SP.conc,this]
      ·have hold:∀ w':World,w'.heap=w.heap→(Builtin.firstCells es n ((TV.one (.slice (some (.loc b 0)) n cap0)).conc c)).run G.P w'=.ok (xb.cells.map (Sc.conc c)).toArray w':=fun w' hw'=>by
        have hr':Rel G.A c m w':=by
         obtain ⟨h1,h2,h3,h4,h5,h6,h7,h8⟩:=hr
         exact ⟨by rw [hw']; exact h1,h2,h3,by rw [hw']; exact h4,by unfold BaseIn; rw [hw']; exact h5,by unfold BaseIn; rw [hw']; exact h6,h7,h8⟩
        refine (sliceHas_run (P:=G.P) (A:=G.A) (s:=.one (.slice (some (.loc b 0)) n cap0)) (k:=n*es) (cells:=xb.cells) hr' ?_ hxl rfl rfl).1
        simp only [SliceHas,hxb]
        rw [← hxl]
        have:∀ l:List Sc,takeAt l 0 l.length=some l:=by
         intro l
         induction l with
         | nil=>rfl
         | cons s l ih=>simp [takeAt,ih]
        exact this _
       obtain ⟨cap,hcap,happ⟩:=run_append_new (ty:=o.type) (k:=k) (w0:=w) (_z:=#[]) hts hu hu2 hie hse hbe hsv hly (by omega) hb hold hfc rfl hz1
       have hK:=hK cap hcap
       rw [snoc_eq,length_setB] at hK
       obtain ⟨hr1,hs1⟩:=hr.push' (x:=⟨xb.cells++us,el,cap*es,true⟩) (junk:=(Builtin.zeroCells z.cells (cap-(n+k))).toList) (by
        refine closedL_iff.2 fun s hs=>?_
        rcases List.mem_append.1 hs with hs | hs
        ·exact closedL_iff.1 hcx s hs
        ·exact closedL_iff.1 husc s hs) (fun h=>by cases h) (fun _=>by
        simp only [Array.length_toList,zeroCells_size,hz2,hul,hxl,List.length_append]
        rw [← Nat.add_mul,← Nat.add_mul]; congr 1; omega) 1
       have hsub:∀ d y,nth (setB m.bs b none++[some (⟨xb.cells++us,el,cap*es,true⟩:Blk)]) d=some y→nth (m.bs++[some ⟨xb.cells++us,el,cap*es,true⟩]) d=some y:=fun d y hy=>by
        have hlt:=nth_lt hy
        simp only [List.length_append,List.length_cons,List.length_nil,length_setB] at hlt
        by_cases hd:d<m.bs.length
        ·rw [nth_append_lt (by simpa using hd)] at hy
         rw [nth_append_lt hd]
         exact (nth_setB_none hy).2
        ·have:d=m.bs.length:=by omega
         subst this
         have hl:nth (setB m.bs b none++[some (⟨xb.cells++us,el,cap*es,true⟩:Blk)]) (setB m.bs b none).length=some ⟨xb.cells++us,el,cap*es,true⟩:=nth_append_last
         rw [length_setB] at hl
         rw [nth_append_last,← hl]; exact hy
       have hlen':(setB m.bs b none++[some (⟨xb.cells++us,el,cap*es,true⟩:Blk)]).length=(m.bs++[some (⟨xb.cells++us,el,cap*es,true⟩:Blk)]).length:=by simp
       have hr2:=hr1.sub hsub hlen'
       have hs2:=hs1.sub hsub hlen'
       refine .of_value ?_ hr2 hs2 (by simp [TV.closed,Sc.closed,SP.closed]) hK
       rw [hrun]
       apply run_value'
       have this:(Con.add c m.bs.length w.heap.size 0).ι m.bs.length=w.heap.size:=by simp [Con.add]
       rw [happ]
       simp [TV.conc,Sc.conc,SP.conc,this]
       congr 2
       apply Array.ext'
       simp
     ·exact h.elim
    ·exact h.elim
   ·exact h.elim
  ·exact h.elim
 ·exact h.elim

theorem acopy_sound (hG:CfgOk G) (hr:Rel G.A c m w) (hf:Fits c m.bs.length e a) {o:Oper} {xs:Array Operand} {ts:Array TypeId} (ho:o.op=.call { callee:=.builtin .copy,args:=xs,argTypes:=ts })
  {vs:List TV} (hvs:getOps e xs.toList=some vs) {K:TV→HM→Prop} (h:acopy G ts.toList vs m K):OpGoes G o c m a w K:=by
 obtain ⟨hargs,hcl⟩:=getOps_sound hf hvs
 unfold acopy at h
 split at h
 ·rename_i t ts' b o' dl dc y hts
  split at h
  ·rename_i el es eb ag l el' es' gr sl ht hx hlen
   obtain ⟨us,hus,h⟩:=h
   split at h
   ·rename_i cs hput
    obtain ⟨hu,hie,hue,hse,_,_⟩:=(hG.tys _ _ ht).k
    have hts0:=argTypes_at hts
    have hA:xs.map a.eval=#[.slice (some ⟨c.ι b,o',none⟩) dl dc,y.conc c]:=by
     apply Array.ext'
     simpa [TV.conc,Sc.conc,SP.conc] using hargs
    have hly:=lenS_run (P:=G.P) (c:=c) (w:=w) hlen
    have hfc:(Builtin.firstCells es (Nat.min sl dl) (y.conc c)).run G.P w=.ok (us.map (Sc.conc c)).toArray w∧closedL m.bs.length us=true:=by
     unfold SliceHas at hus
     split at hus
     ·subst hus
      exact ⟨by simp [TV.conc,Sc.conc,Builtin.firstCells],rfl⟩
     ·rename_i b2 o2 _ _
      split at hus
      ·rename_i x hx2
       obtain ⟨e1,hlen1⟩:=takeAt_spec hus
       have hul:us.length=Nat.min sl dl*es:=by rw [e1]; simp; omega
       exact ⟨by
        have:=run_loadCells (P:=G.P) (w:=w) (p:=⟨c.ι b2,o2,none⟩) (vs:=us.map (Sc.conc c)) (fun j v hv=>by
         rw [List.getElem?_map] at hv
         simp only [Option.map_eq_some_iff] at hv
         obtain ⟨s,hs,rfl⟩:=hv
         have:x.cells[o2+j]?=some s:=by
          rw [e1,List.getElem?_take] at hs
          split at hs
          ·simpa using hs
          ·cases hs
         rw [addr_off]
         exact hr.cell hx2 this)
        simp only [TV.conc,Sc.conc,Option.map_some,SP.conc,Builtin.firstCells]
        rw [← hul]
        simpa using this,by
        rw [e1]
        exact closedL_iff.2 fun s hs=>closedL_iff.1 (hr.cl b2 x hx2) s (List.mem_of_mem_drop (List.mem_of_mem_take hs))⟩
      ·exact hus.elim
     ·rename_i a2 _ _
      obtain ⟨h1,h2,h3⟩:=hus
      have ag0:Agree 0 Con0 c:=fun b hb=>absurd hb (Nat.not_lt_zero b)
      refine ⟨?_,closedL_mono (Nat.zero_le _) h2⟩
      have:=run_loadCells (P:=G.P) (w:=w) (p:=a2) (vs:=us.map (Sc.conc c)) (fun j v hv=>by
       rw [List.getElem?_map] at hv
       simp only [Option.map_eq_some_iff] at hv
       obtain ⟨s,hs,rfl⟩:=hv
       rw [Sc.conc_agree ag0 (closedL_iff.1 h2 s (List.mem_of_getElem? hs))]
       exact bcell_in (baseIn_or hr.baseA hr.baseN) (h3 j s hs))
      simp only [TV.conc,Sc.conc,Option.map_some,SP.conc,Builtin.firstCells]
      rw [← h1]
      simpa using this
     ·exact hus.elim
    obtain ⟨w',hw,h1,h2⟩:=hr.store (P:=G.P) hx hput hfc.2
    refine .of_value ?_ h1 h2 rfl h
    simp only [execOp,ho,resolve,hA,pure_bind,invoke,builtin]
    apply run_value'
    have hcopy:(Builtin.copy_ ts o.type #[.slice (some ⟨c.ι b,o',none⟩) dl dc,y.conc c]).run G.P w=.ok (goInt (Nat.min sl dl:Nat)) w':=by
     simp [Builtin.copy_,hts0,r_underlying hu,hly,r_sizeOf hie,hse,hfc.1,hw]
    rw [hcopy]
    simp [goInt,TV.conc,Sc.conc]
   ·exact h.elim
  ·exact h.elim
 ·exact h.elim

end
end Go.Hv

namespace Go.Hv
open Go.Ev
section
variable {G:Cfg} {c:Con} {m:HM} {e e':Env} {a:Act} {w:World}

@[simp] theorem bytesS_length:∀ l:List Int,(bytesS l).length=l.length
 | []=>rfl
 | n::l=>by simp [bytesS,bytesS_length l]

theorem bytesS_map (c:Con):∀ l:List Int,(bytesS l).map (Sc.conc c)=l.map (Value.int .u8)
 | []=>rfl
 | n::l=>by simp [bytesS,byteS,Sc.conc,bytesS_map c l]

theorem run_bytes_forIn {P:Program} {f:Value→ByteArray→Sem (ForInStep ByteArray)} (hf:∀ n s,f (.int .u8 n) s=pure (.yield (s.push (UInt8.ofNat n.toNat)))) (l:List Int):∀ (s:ByteArray) (w:World),
  (forIn (m:=Sem) (l.map (Value.int .u8)) s f).run P w=.ok ⟨s.data++(l.map fun n=>UInt8.ofNat n.toNat).toArray⟩ w:=by
 induction l with
 | nil=>intro s w; simp
 | cons n l ih=>
  intro s w
  simp only [List.map_cons,List.forIn_cons,hf,pure_bind]
  rw [ih]
  simp [ByteArray.push]

theorem run_bytesToString {P:Program} {x:Value} {l:List Int} (h:(Builtin.firstCells 1 l.length x).run P w=.ok (l.map (Value.int .u8)).toArray w) (hx:∃ p cap,x=.slice p l.length cap) (h0:∀ cap n,x=.slice none n cap→l=[]) :
  (Conv.bytesToString x).run P w=.ok (.string (strOf l)) w:=by
 obtain ⟨p,cap,rfl⟩:=hx
 unfold Conv.bytesToString
 cases p with
 | none=>
  have:=h0 _ _ rfl
  subst this
  rfl
 | some a=>
  simp only [Builtin.firstCells,Nat.mul_one] at h
  simp only [Sem.run_bind,h,Result.andThen_ok]
  simp only [List.forIn_toArray]
  rw [run_bytes_forIn (fun _ _=>rfl)]
  simp [strOf,ByteArray.empty,ByteArray.emptyWithCapacity]
  rfl

theorem run_stringToBytes {P:Program} {el:TypeId} {s:ByteArray} (hs:s.size<2^63) (w:World):∃ cap,s.size≤cap∧(Conv.stringToBytes el s).run P w=.ok (.slice (some ⟨w.heap.size,0,none⟩) s.size cap)
  { w with heap:=w.heap.push (.cells ((s.data.map fun b=>Value.int .u8 b.toNat)++Array.replicate (cap-s.size) (.int .u8 0)) el (s.data.size+(cap-s.size),s.data.size+(cap-s.size)+1)),drawn:=w.drawn+1 }:=by
 obtain ⟨cap,hcap,hch⟩:=run_choose_cap (P:=P) (need:=s.size) (old:=0) (el:=el) hs w
 refine ⟨cap,hcap,?_⟩
 simp only [Conv.stringToBytes,Sem.run_bind,hch,Result.andThen_ok,newRow,run_newObj,Sem.run_pure]
 simp [markStringish,shape,freeze,Sem.run,World.shape?,World.freeze]
 apply Array.ext_getElem?
 intro j
 simp only [Array.getElem?_modify,Array.getElem?_push]
 split<;>split<;>simp_all

theorem aconv_sound (hG:CfgOk G) (hr:Rel G.A c m w) (hf:Fits c m.bs.length e a) {o:Oper} {s d:TypeId} {x:Operand} (ho:o.op=.convert s d x) {v:TV} (hv:opv e x=some v) {K:TV→HM→Prop} (h:aconv G s d v m K):OpGoes G o c m a w K:=by
 obtain ⟨h0,hcl⟩:=opv_sound hf hv
 have hrun:(execOp a.eval o).run G.P w=(do pure (.value (← convert s d (v.conc c))):Sem Next).run G.P w:=by
  simp only [execOp,ho,h0]
 unfold aconv at h
 split at h
 ·rename_i el es eb ag _ _ _ _ hs hd
  split at h
  ·rename_i n hel hn
   obtain ⟨l,hlen,hl,hlr,hK⟩:=h
   obtain ⟨hu,hie,hue,hse,_,_⟩:=(hG.tys _ _ hs).k
   have hud:G.P.underlying d=some .string:=(hG.tys _ _ hd).k
   have huel:G.P.underlying el=some (.int .u8):=(hG.tys _ _ hel).k
   refine .of_value ?_ hr (Since.refl c m w) rfl hK
   rw [hrun]
   apply run_value'
   obtain ⟨p,cap,hp⟩:=lenS_conc (c:=c) hn
   have hfc:=(sliceHas_run (P:=G.P) (size:=1) hr hl (by simp [hlen]) (by omega) hn).1
   rw [bytesS_map] at hfc
   have hres:(Conv.bytesToString (v.conc c)).run G.P w=.ok (.string (strOf l)) w:=by
    subst hlen
    refine run_bytesToString hfc ⟨_,_,hp⟩ (fun cap' n' e=>?_)
    rw [e] at hfc
    simp [Builtin.firstCells] at hfc
    exact hfc
   rw [hp] at hres ⊢
   simp only [convert,Sem.run_bind,r_underlying hu,r_underlying hud,Result.andThen_ok,r_underlying huel,hres]
   simp [TV.conc,Sc.conc]
  ·exact h.elim
 ·rename_i el es eb ag hs hd
  split at h
  ·rename_i t hel
   obtain ⟨ht63,hK⟩:=h
   obtain ⟨hu,hie,hue,hse,_,_⟩:=(hG.tys _ _ hd).k
   have hus:G.P.underlying s=some .string:=(hG.tys _ _ hs).k
   have huel:G.P.underlying el=some (.int .u8):=(hG.tys _ _ hel).k
   obtain ⟨cap,hcap,hst⟩:=run_stringToBytes (P:=G.P) (el:=el) (s:=t) (by omega) w
   obtain ⟨arr,harr⟩:∃ arr,arr=(t.data.map fun b=>Value.int .u8 b.toNat)++Array.replicate (cap-t.size) (.int .u8 0):=⟨_,rfl⟩
   obtain ⟨fz,hfz⟩:∃ fz,fz=(t.data.size+(cap-t.size),t.data.size+(cap-t.size)+1):=⟨_,rfl⟩
   rw [← harr,← hfz] at hst
   obtain ⟨obj,hobj⟩:∃ obj,obj=Obj.cells arr el fz:=⟨_,rfl⟩
   rw [← hobj] at hst
   have hkeep:∀ r,r<w.heap.size→(World.mk (w.heap.push obj) w.tape (w.drawn+1) w.os w.output).heap[r]?=w.heap[r]?:=fun r hr'=>by
    simp only [Array.getElem?_push]; rw [if_neg (by omega)]
   have hsame:Same w (World.mk (w.heap.push obj) w.tape (w.drawn+1) w.os w.output):=⟨by simp,rfl,rfl,rfl⟩
   let N1:Base:=fun r o=>m.N r o∨(r=w.heap.size∧o=obj)
   have hN1:BaseIn N1 (World.mk (w.heap.push obj) w.tape (w.drawn+1) w.os w.output):=fun r o hr'=>by
    rcases hr' with h' | ⟨rfl,rfl⟩
    ·exact baseIn_keep hr.baseN hkeep r o h'
    ·simp
   have hf1:∀ r o,N1 r o→m.N r o∨w.heap.size≤r:=fun r o h'=>h'.elim .inl fun h'=>.inr (by omega)
   refine .of_value (v:=.one (.slice (some (.ext ⟨w.heap.size,0,none⟩)) t.size cap)) ?_ (hr.more hkeep hsame.size hN1 hf1) (Since.still hsame hkeep hf1) rfl
    (hK ⟨w.heap.size,0,none⟩ cap N1 hcap rfl rfl (fun r o h'=>.inl h') (fun i b hb=>?_))
   ·rw [hrun]
    apply run_value'
    simp only [TV.conc,Sc.conc,Option.map_some,SP.conc]
    simp only [convert,Sem.run_bind,r_underlying hu,r_underlying hus,Result.andThen_ok,r_underlying huel,hst]
   ·refine ⟨_,_,_,.inr ⟨?_,hobj.symm⟩,?_,?_⟩
    ·unfold Addr.add; split<;>rfl
    ·unfold Addr.add; split<;>rfl
    ·have hlt:i<t.data.size:=(Array.getElem?_eq_some_iff.1 hb).1
     have:(Addr.add ⟨w.heap.size,0,none⟩ i).off=i:=by unfold Addr.add; split<;>simp_all
     rw [this,harr,Array.getElem?_append_left (by simpa using hlt)]
     simp [hb]
  ·exact h.elim
 ·exact h.elim

theorem amake_sound (hG:CfgOk G) (hr:Rel G.A c m w) (hf:Fits c m.bs.length e a) {o:Oper} {t:TypeId} {x y:Operand} (ho:o.op=.makeSlice t x y) {u v:TV} (hu:opv e x=some u) (hv:opv e y=some v) {K:TV→HM→Prop} (h:amake G t u v m K):OpGoes G o c m a w K:=by
 obtain ⟨h0,hcl0⟩:=opv_sound hf hu
 obtain ⟨h0',hcl1⟩:=opv_sound hf hv
 unfold amake at h
 split at h
 ·rename_i el es eb ag l k ht
  split at h
  ·rename_i i hi
   obtain ⟨⟨hl0,rfl,hc63,hby,hzl⟩,hK⟩:=h
   obtain ⟨hun,hie,hue,hse,hbe,_⟩:=(hG.tys _ _ ht).k
   have hrow:=hG.tys _ _ hi
   obtain ⟨inf,hinf⟩:=Option.isSome_iff_exists.1 hie
   have hbytes:inf.bytes=eb:=by rw [← hbe]; simp [Program.bytesOf,hinf]
   obtain ⟨z,hz1,hz2⟩:=hrow.zero c w
   rw [snoc_eq] at hK
   have hrc:closedL m.bs.length (repS l.toNat i.zero)=true:=repS_closed (closedL_mono (Nat.zero_le _) hrow.zc) l.toNat
   obtain ⟨h1,h2⟩:=hr.push (t:=el) hrc
   refine .of_value ?_ h1 h2 (by simp [TV.closed,Sc.closed,SP.closed]) hK
   simp only [execOp,ho,h0,h0']
   apply run_value'
   have this:(Con.add c m.bs.length w.heap.size 0).ι m.bs.length=w.heap.size:=by simp [Con.add]
   have hwr:IntKind.i64.wrap l=l:=by simp only [IntKind.wrap,IntKind.signed,IntKind.bits]; simp; omega
   have hcond:¬ ((((decide (l<0)||decide ((inf.bytes:Int)*l > 2^48))||decide (l<0))||decide (l > l))=true):=by
    rw [hbytes]; simp; omega
   have hrep:=repS_conc c l.toNat es i.zero hzl
   simp only [TV.conc,Sc.conc,Instr.makeSlice,Sem.run_bind,r_underlying hun,Result.andThen_ok]
   have ai:∀ (w:World),(asInt (.int .i64 l)).run G.P w=.ok l w:=fun w=>by simp [asInt,asIntOf]
   simp only [ai,Result.andThen_ok,r_typeInfo hinf,hwr,Sem.run_ite,Sem.run_bind,run_askRoom,r_sizeOf hie,hse]
   rw [if_neg hcond]
   by_cases hn0:l.toNat*es=0
   ·simp only [if_pos hn0] at hrep
    simp only [if_pos hn0,Sem.run_pure,Result.andThen_ok,hrep,newRow,run_newObj,Sem.run_bind,Option.map_some,SP.conc,this]
   ·simp only [if_neg hn0] at hrep
    simp only [if_neg hn0,Sem.run_pure,Result.andThen_ok,hz1,hz2,hrep,newRow,run_newObj,Sem.run_bind,Option.map_some,SP.conc,this]
  ·exact h.elim
 ·exact h.elim

end
end Go.Hv

namespace Go.Hv
open Go.Ev
section
variable {G:Cfg} {c:Con} {m:HM} {e e':Env} {a:Act} {w:World}

theorem bound_some {n:Nat} (hf:Fits c n e a) {x:Operand} {d:Nat} {l:Int} (h:bound e (some x) d=some l):∃ k,a.eval x=.int k l:=by
 rcases bound_sound hf h with ⟨h1,_⟩ | ⟨k,hk⟩
 ·cases h1
 ·exact ⟨k,by simpa using hk⟩

theorem pval2_sound {P:Program} {T:Tys} {n:Nat} (hT:TysOk P T) (hf:Fits c n e a) {o:Oper} {v:TV} (h:pval2 T o.op e=some v):Ev.Yields P c n a o v:=by
 obtain ⟨dst,op,ty,pos,after,guard⟩:=o
 simp only at h
 unfold pval2 at h
 split at h
 ·rename_i bo t x y t'
  split at h
  ·rename_i s1 s2 hx hy
   obtain ⟨h1,_⟩:=opv_sound hf hx
   obtain ⟨h2,_⟩:=opv_sound hf hy
   simp only [Option.some.injEq] at h
   subst h
   refine ⟨fun w=>?_,rfl⟩
   simp only [execOp,h1,h2]
   apply run_value
   simp [TV.conc,Sc.conc,eqGuard,binOp,Op.stringOp]
  ·rename_i s1 s2 hx hy
   obtain ⟨h1,_⟩:=opv_sound hf hx
   obtain ⟨h2,_⟩:=opv_sound hf hy
   simp only [Option.some.injEq] at h
   subst h
   refine ⟨fun w=>?_,rfl⟩
   simp only [execOp,h1,h2]
   apply run_value
   simp [TV.conc,Sc.conc,eqGuard,binOp,Op.stringOp]
  ·cases h
 ·rename_i xs ts
  split at h
  ·rename_i k i1 k' i2 hx
   obtain ⟨h1,_⟩:=getOps_sound hf hx
   simp only [Option.some.injEq] at h
   subst h
   refine ⟨fun w=>?_,rfl⟩
   have hA:xs.map a.eval=#[.int k i1,.int k' i2]:=by
    apply Array.ext'
    simpa [TV.conc,Sc.conc] using h1
   simp only [execOp,resolve,pure_bind,invoke,builtin]
   apply run_value'
   rw [show (xs.map a.eval)=#[.int k i1,.int k' i2] from hA]
   simp [Builtin.min_,Builtin.min2,TV.conc,Sc.conc]
  ·cases h
 ·rename_i xs ts
  split at h
  ·rename_i t ts' hts
   split at h
   ·rename_i _ _ _ _ s ht hx
    obtain ⟨h1,_⟩:=getOps_sound hf hx
    simp only [Option.some.injEq] at h
    subst h
    have hu:P.underlying t=some .string:=(hT _ _ ht).k
    refine ⟨fun w=>?_,rfl⟩
    have hA:xs.map a.eval=#[.string s]:=by
     apply Array.ext'
     simpa [TV.conc,Sc.conc] using h1
    simp only [execOp,resolve,pure_bind,invoke,builtin]
    apply run_value'
    rw [show (xs.map a.eval)=#[.string s] from hA]
    simp [Builtin.len_,argTypes_at hts,r_underlying hu,TV.conc,Sc.conc,goInt]
   ·cases h
  ·cases h
 ·rename_i t x lo hi mx
  split at h
  ·rename_i el es eb ag p len cap ht hx
   split at h
   ·rename_i l hh mm hl hhh hm
    split at h
    ·rename_i hb
     have hb:=of_decide_eq_true hb
     obtain ⟨h1,h2⟩:=opv_sound hf hx
     obtain ⟨hu,hie,hue,hse,_,_⟩:=(hT _ _ ht).k
     obtain ⟨km,hkm⟩:=bound_some hf hm
     obtain ⟨kh,hkh⟩:=bound_some hf hhh
     have hlow:(lo=none∧l=0)∨∃ k,lo.map a.eval=some (.int k l):=by simpa using bound_sound hf hl
     simp only [TV.conc,Sc.conc,Option.map_some] at h1
     have hrun:∀ w,(Instr.sliceBounds true len cap (lo.map a.eval) (some (a.eval hi)) (some (a.eval mx))).run P w=.ok (l.toNat,hh.toNat,mm.toNat) w:=fun w=>by
      have e1:(Instr.sliceBound (.int km mm) cap .slice3Acap).run P w=.ok mm.toNat w:=by
       simp [Instr.sliceBound,asIntOf,hb.1,hb.2.1]
      have e2:(Instr.sliceBound (.int kh hh) mm.toNat .slice3B).run P w=.ok hh.toNat w:=by
       simp only [Instr.sliceBound,asIntOf,Sem.run_bind,Sem.run_pure,Result.andThen_ok,Sem.run_ite]
       rw [if_pos ⟨hb.2.2.1,by omega⟩]
      unfold Instr.sliceBounds
      simp only [hkm,hkh,if_true,Sem.run_bind,e1,e2,Result.andThen_ok,Option.isSome_some]
      rcases hlow with ⟨rfl,rfl⟩ | ⟨kl,hkl⟩
      ·simp
      ·have e3:(Instr.sliceBound (.int kl l) hh.toNat .slice3C).run P w=.ok l.toNat w:=by
        simp only [Instr.sliceBound,asIntOf,Sem.run_bind,Sem.run_pure,Result.andThen_ok,Sem.run_ite]
        rw [if_pos ⟨hb.2.2.2.2.1,by omega⟩]
       simp only [hkl,e3,Sem.run_bind,Result.andThen_ok,Sem.run_pure]
     have hcase:v=.one (.slice (some (if l.toNat=mm.toNat then p else p.add (l.toNat*es))) (hh.toNat-l.toNat) (mm.toNat-l.toNat)):=by
      split at h
      ·rename_i hq
       have:=Nat.eq_of_beq_eq_true hq
       simp only [Option.some.injEq] at h
       rw [if_pos this,h]
      ·rename_i hq
       have:l.toNat≠mm.toNat:=fun e=>by rw [e] at hq; simp at hq
       simp only [Option.some.injEq] at h
       rw [if_neg this,h]
     subst hcase
     refine ⟨fun w=>?_,?_⟩
     ·simp only [execOp,h1,Option.map_some]
      apply run_value
      simp only [Instr.sliceAt]
      simp only [Instr.slice,Sem.run_bind,r_underlying hu,Result.andThen_ok,hrun,r_sizeOf hie,hse,Sem.run_pure,TV.conc,Sc.conc,Option.map_some]
      by_cases hq:l.toNat=mm.toNat
      ·simp [hq]
      ·have hq':¬ mm.toNat=l.toNat:=fun e=>hq e.symm
       simp [hq,hq',addr_add]
     ·simp only [TV.closed,Sc.closed] at h2 ⊢
      split
      ·exact h2
      ·rw [SP.add_closed]; exact h2
    ·cases h
   ·cases h
  ·cases h
 ·rename_i t x lo hi
  split at h
  ·rename_i _ _ _ el es eb ag ht hx
   split at h
   ·rename_i l hh hl hhh
    split at h
    ·rename_i hb
     obtain ⟨rfl,rfl⟩:=of_decide_eq_true hb
     obtain ⟨h1,h2⟩:=opv_sound hf hx
     obtain ⟨hu,hie,hue,hse,_,_⟩:=(hT _ _ ht).k
     simp only [Option.some.injEq] at h
     subst h
     have hrun:=fun w=>run_sliceBounds (P:=P) true (len:=0) (cap:=0) hf hl hhh (by omega) w
     refine ⟨fun w=>?_,rfl⟩
     simp only [TV.conc,Sc.conc,Option.map_none] at h1
     simp only [execOp,h1]
     apply run_value
     simp only [Instr.sliceAt]
     simp only [Instr.slice,Sem.run_bind,r_underlying hu,Result.andThen_ok,hrun,r_sizeOf hie,hse,Sem.run_pure,TV.conc,Sc.conc,Option.map_none]
     simp
    ·cases h
   ·cases h
  ·cases h
 ·cases h

theorem pvalH_sound {P:Program} {T:Tys} {n:Nat} (hT:TysOk P T) (hf:Fits c n e a) {o:Oper} {v:TV} (h:pvalH T o.op e=some v):Ev.Yields P c n a o v:=by
 unfold pvalH at h
 split at h
 ·rename_i u hu
  simp only [Option.some.injEq] at h
  subst h
  exact pval_sound hT hf hu
 ·exact pval2_sound hT hf h

theorem aop_sound (hG:CfgOk G) (hr:Rel G.A c m w) (hf:Fits c m.bs.length e a) {o:Oper} {K:TV→HM→Prop} (h:aop G o e m K):OpGoes G o c m a w K:=by
 unfold aop at h
 split at h
 ·rename_i t ho
  split at h
  ·rename_i i ht
   have hrow:=hG.tys _ _ ht
   simp only [snoc_eq] at h
   obtain ⟨z,hz1,hz2⟩:=hrow.zero c w
   obtain ⟨h1,h2⟩:=hr.push (t:=t) (closedL_mono (Nat.zero_le m.bs.length) hrow.zc)
   refine .of_value ?_ h1 h2 (by simp [TV.closed,Sc.closed,SP.closed]) h
   have:(Con.add c m.bs.length w.heap.size 0).ι m.bs.length=w.heap.size:=by simp [Con.add]
   simp [execOp,ho,Instr.alloc,hz1,newVar,newRow,hz2,TV.conc,Sc.conc,SP.conc,this]
  ·cases h
 ·rename_i t x ho
  split at h
  ·rename_i v hv
   split at h
   ·rename_i cs hcs
    simp only [snoc_eq] at h
    obtain ⟨h0,hcl⟩:=opv_sound hf hv
    obtain ⟨h1,h2⟩:=hr.push (t:=t) (TV.cells_closed hcs hcl)
    refine .of_value ?_ h1 h2 (by simp [TV.closed,Sc.closed,SP.closed]) h
    have:(Con.add c m.bs.length w.heap.size 0).ι m.bs.length=w.heap.size:=by simp [Con.add]
    have hcc:=TV.cells_conc (c:=c) hcs hcl
    simp only [execOp,ho]
    apply run_value'
    simp only [Instr.box,h0,newVar,newRow,hcc,Sem.run_bind,run_newObj,Result.andThen_ok,Sem.run_pure]
    simp [TV.conc,Sc.conc,SP.conc,this]
   ·cases h
  ·cases h
 ·rename_i t x ho
  split at h
  ·rename_i v hv
   obtain ⟨h0,hcl⟩:=opv_sound hf hv
   obtain ⟨p,u,hp,hrun,hu,hK⟩:=aload_run hG hr hcl h
   refine .of_value ?_ hr (Since.refl c m w) hu hK
   rw [hp] at h0
   simp only [execOp,ho,h0]
   apply run_value
   simp [Instr.loadAt,Instr.sureAddr,hrun]
  ·cases h
 ·rename_i t x y ho
  split at h
  ·rename_i v u hv hu
   obtain ⟨h0,hcl⟩:=opv_sound hf hv
   obtain ⟨h0',hcl'⟩:=opv_sound hf hu
   split at h
   ·rename_i m' hm
    unfold astore at hm
    split at hm
    ·rename_i i b o' vs ht hvs
     split at hm
     ·rename_i l el es gr hk
      split at hm
      ·rename_i hsz
       have hsz:=Nat.eq_of_beq_eq_true hsz
       split at hm
       ·rename_i cs hput
        simp only [Option.some.injEq] at hm
        subst hm
        obtain ⟨w',hw,h1,h2⟩:=hr.store (P:=G.P) hk hput (TV.cells_closed hvs hcl')
        have hrow:=hG.tys _ _ ht
        refine .of_skip ?_ h1 h2 h
        have hcc:=TV.cells_conc (c:=c) hvs hcl'
        have hsv:(storeVar t ⟨c.ι b,o',none⟩ (u.conc c)).run G.P w=.ok () w':=by
         simp only [storeVar,Sem.run_bind,hrow.size,Result.andThen_ok,hcc]
         have:¬ ((vs.map (Sc.conc c)).toArray.size≠i.size):=by simp [hsz]
         simp only [if_neg this]
         exact hw
        simp only [TV.conc,Sc.conc,Option.map_some,SP.conc] at h0
        simp [execOp,ho,h0,h0',Instr.storeAt,Instr.sureAddr,hsv]
       ·cases hm
      ·cases hm
     ·cases hm
    ·cases hm
   ·cases h
  ·cases h
 ·rename_i f xs ts ho
  split at h
  ·rename_i vs hvs
   exact acall_sound hG hr hf ho hvs h
  ·cases h
 ·rename_i xs ts ho
  split at h
  ·rename_i vs hvs
   exact acopy_sound hG hr hf ho hvs h
  ·cases h
 ·rename_i xs ts ho
  split at h
  ·rename_i vs hvs
   exact aappend_sound hG hr hf ho hvs h
  ·cases h
 ·rename_i t x y ho
  split at h
  ·rename_i u v hu hv
   exact amake_sound hG hr hf ho hu hv h
  ·exact h.elim
 ·split at h
  ·rename_i t n psl hn
   obtain ⟨ps,ho,rfl⟩:=newOp_some hn
   split at h
   ·rename_i vs hvs
    unfold optM at h
    split at h
    ·rename_i v m' hc
     unfold abuild at hc
     split at hc
     ·rename_i el es _ _ ht
      split at hc
      ·rename_i i hi
       split at hc
       ·rename_i hle
        obtain ⟨hle,hsz⟩:=of_decide_eq_true hle
        split at hc
        ·rename_i cs hcs
         simp only [snoc_eq,Option.some.injEq,Prod.mk.injEq] at hc
         obtain ⟨rfl,rfl⟩:=hc
         obtain ⟨hps,hcl⟩:=opvP_sound hf hvs
         have hrow:=hG.tys _ _ hi
         obtain ⟨hu,hie,hue,hse,_,_⟩:=(hG.tys _ _ ht).k
         have hrc:closedL m.bs.length (repS n i.zero)=true:=repS_closed (closedL_mono (Nat.zero_le m.bs.length) hrow.zc) n
         have hcc:=fillA_closed es vs _ cs hcs hrc hcl
         obtain ⟨h1,h2⟩:=hr.push (t:=el) hcc
         refine .of_value ?_ h1 h2 (by simp [TV.closed,Sc.closed,SP.closed]) h
         obtain ⟨z,hz1,hz2⟩:=hrow.zero c w
         have hfill:=fillA_sound es c vs _ cs hcl hcs
         have hps':(ps.map fun p=>(p.1,a.eval p.2)).toList=vs.map fun p=>(p.1,p.2.conc c):=by
          rw [Array.toList_map,← hps]
         have hrep:=repS_conc c n es i.zero hsz
         have this:(Con.add c m.bs.length w.heap.size 0).ι m.bs.length=w.heap.size:=by simp [Con.add]
         have hgt:¬ (n*es > 2^24):=by omega
         simp only [execOp,ho]
         apply run_value'
         by_cases h0:n*es=0
         ·simp only [if_pos h0] at hrep
          simp only [Instr.buildSlice,Sem.run_bind,r_underlying hu,Result.andThen_ok,r_sizeOf hie,hse,if_neg hgt,if_pos h0,Sem.run_pure]
          rw [show (ps.map fun x=>match x with | (i,x)=>(i,a.eval x))=ps.map fun p=>(p.1,a.eval p.2) from rfl,hps',hrep,hfill]
          simp only [newRow,Sem.run_bind,run_newObj,Result.andThen_ok,Sem.run_pure]
          simp [TV.conc,Sc.conc,SP.conc,this]
         ·simp only [if_neg h0] at hrep
          simp only [Instr.buildSlice,Sem.run_bind,r_underlying hu,Result.andThen_ok,r_sizeOf hie,hse,if_neg hgt,if_neg h0,Sem.run_pure,hz1,hz2]
          rw [show (ps.map fun x=>match x with | (i,x)=>(i,a.eval x))=ps.map fun p=>(p.1,a.eval p.2) from rfl,hps',hrep,hfill]
          simp only [newRow,Sem.run_bind,run_newObj,Result.andThen_ok,Sem.run_pure]
          simp [TV.conc,Sc.conc,SP.conc,this]
        ·cases hc
       ·cases hc
      ·cases hc
     ·cases hc
    ·cases h
   ·cases h
  ·split at h
   ·rename_i v hv
    obtain ⟨h1,h2⟩:=pvalH_sound hG.tys hf hv
    exact .of_value (h1 w) hr (Since.refl c m w) h2 h
   ·split at h
    ·rename_i s d x ho
     split at h
     ·rename_i v hv
      exact aconv_sound hG hr hf ho hv h
     ·exact h.elim
    ·exact h.elim

end
end Go.Hv

namespace Go.Hv
open Go.Ev

section
variable {G:Cfg} {c:Con} {m:HM} {e e':Env} {a:Act} {w:World} {ops:Array Oper}

theorem pval2_same {T:Tys} {op:Op} (h:∀ x∈op.operands.toList,opv e x=opv e' x):pval2 T op e=pval2 T op e':=by
 cases op with
 | binOp _ _ x y _=>simp only [pval2,h x (by simp [Op.operands]),h y (by simp [Op.operands])]
 | slice t x lo hi mx=>
  have b1:=bound_same (e:=e) (e':=e') (x:=lo) (d:=0) (fun y hy=>h y (by simp [Op.operands]; simp at hy; simp [hy]))
  have b2:=fun d=>bound_same (e:=e) (e':=e') (x:=hi) (d:=d) (fun y hy=>h y (by simp [Op.operands]; simp at hy; simp [hy]))
  cases mx with
  | some y=>
   cases hi with
   | none=>rfl
   | some hi=>
   have b3:=fun d=>bound_same (e:=e) (e':=e') (x:=some y) (d:=d) (fun z hz=>h z (by simp [Op.operands]; simp at hz; simp [hz]))
   simp only [pval2,h x (by simp [Op.operands]),b1,b2,b3]
  | none=>simp only [pval2,h x (by simp [Op.operands]),b1,b2]
 | call cl=>
  obtain ⟨callee,xs,ts⟩:=cl
  have:=getOps_same (e:=e) (e':=e') (xs:=xs.toList) (fun x hx=>h x (by simp [Op.operands,Call.operands]; right; simpa using hx))
  cases callee with
  | builtin b=>cases b<;>simp only [pval2,this]
  | _=>rfl
 | _=>rfl

theorem pvalH_same {T:Tys} {op:Op} (h:∀ x∈op.operands.toList,opv e x=opv e' x):pvalH T op e=pvalH T op e':=by
 unfold pvalH
 rw [pval_same h,pval2_same h]

theorem aop_same {o:Oper} {K:TV→HM→Prop} (h:∀ x∈o.op.operands.toList,opv e x=opv e' x) (hh:aop G o e m K):aop G o e' m K:=by
 unfold aop at *
 have hp:=pvalH_same (T:=G.T) h
 split at hh
 ·exact hh
 ·rename_i t x ho
  rw [ho] at h
  simp only [← h x (by simp [Op.operands])]; exact hh
 ·rename_i t x ho
  rw [ho] at h
  simp only [← h x (by simp [Op.operands])]; exact hh
 ·rename_i t x y ho
  rw [ho] at h
  simp only [← h x (by simp [Op.operands]),← h y (by simp [Op.operands])]; exact hh
 ·rename_i f xs ts ho
  rw [ho] at h
  have:=getOps_same (e:=e) (e':=e') (xs:=xs.toList) (fun x hx=>h x (by simp [Op.operands,Call.operands]; right; simpa using hx))
  simp only [← this]; exact hh
 ·rename_i xs ts ho
  rw [ho] at h
  have:=getOps_same (e:=e) (e':=e') (xs:=xs.toList) (fun x hx=>h x (by simp [Op.operands,Call.operands]; simpa using hx))
  simp only [← this]; exact hh
 ·rename_i xs ts ho
  rw [ho] at h
  have:=getOps_same (e:=e) (e':=e') (xs:=xs.toList) (fun x hx=>h x (by simp [Op.operands,Call.operands]; simpa using hx))
  simp only [← this]; exact hh
 ·rename_i t x y ho
  rw [ho] at h
  simp only [← h x (by simp [Op.operands]),← h y (by simp [Op.operands])]; exact hh
 ·split at hh
  ·rename_i t n psl hn
   obtain ⟨ps,ho,rfl⟩:=newOp_some hn
   rw [ho] at h
   have:=opvP_same (e:=e) (e':=e') (xs:=ps.toList) (fun x hx=>h x.2 (by simp only [Op.operands]; simp only [List.mem_map]; exact ⟨x,hx,rfl⟩))
   simp only [← this]; exact hh
  ·simp only [← hp]
   split at hh
   ·exact hh
   ·split at hh
    ·rename_i s d x ho
     rw [ho] at h
     simp only [← h x (by simp [Op.operands])]; exact hh
    ·exact hh

theorem acall_mono {f:FuncId} {args:List TV} {K K':TV→HM→Prop} (hk:∀ v m,K v m→K' v m) (h:acall G f args m K):acall G f args m K':=by
 unfold acall at *
 split at h
 ·exact primC_mono (fun v=>hk v m) h
 ·split at h
  ·obtain ⟨v,h1,h2,h3⟩:=h; exact ⟨v,h1,h2,hk _ _ h3⟩
  ·obtain ⟨K0,h1,h2,h3⟩:=h; exact ⟨K0,h1,h2,fun v N' hc hv N1 hN=>hk _ _ (h3 v N' hc hv N1 hN)⟩
  ·obtain ⟨K0,h1,h2,h3⟩:=h
   refine ⟨K0,h1,h2,fun n cap k N' hc hv N1 hN=>?_⟩
   have:=h3 n cap k N' hc hv N1 hN
   simp only [snoc_eq] at this ⊢
   exact hk _ _ this
  ·obtain ⟨R,h1,h2,h3⟩:=h; exact ⟨R,h1,h2,fun v m' hr=>hk _ _ (h3 v m' hr)⟩

theorem aload_mono {t:TypeId} {x:TV} {K K':TV→HM→Prop} (hk:∀ v m,K v m→K' v m) (h:aload G t x m K):aload G t x m K':=by
 unfold aload at *
 split at h
 ·split at h
  ·split at h
   ·exact hk _ _ h
   ·exact h
  ·exact h
 ·obtain ⟨v,h1,h2⟩:=h; exact ⟨v,h1,hk _ _ h2⟩
 ·exact h

theorem acopy_mono {ts:List TypeId} {args:List TV} {K K':TV→HM→Prop} (hk:∀ v m,K v m→K' v m) (h:acopy G ts args m K):acopy G ts args m K':=by
 unfold acopy at *
 split at h
 ·split at h
  ·obtain ⟨us,h1,h2⟩:=h
   refine ⟨us,h1,?_⟩
   split at h2
   ·exact hk _ _ h2
   ·exact h2
  ·exact h
 ·exact h

theorem aappend_mono {ts:List TypeId} {args:List TV} {K K':TV→HM→Prop} (hk:∀ v m,K v m→K' v m) (h:aappend G ts args m K):aappend G ts args m K':=by
 unfold aappend at *
 split at h
 ·split at h
  ·split at h
   ·obtain ⟨us,h1,h2,h3,h4⟩:=h
    refine ⟨us,h1,h2,h3,?_⟩
    split at h4
    ·split at h4
     ·exact hk _ _ h4
     refine ⟨h4.1,h4.2.1,fun cap hc=>?_⟩
     have:=h4.2.2 cap hc
     simp only [snoc_eq] at this ⊢
     exact hk _ _ this
    ·split at h4
     ·obtain ⟨g1,g2,g3,g4,g5,g6⟩:=h4
      refine ⟨g1,g2,g3,g4,g5,fun cap hc=>?_⟩
      have:=g6 cap hc
      simp only [snoc_eq] at this ⊢
      exact hk _ _ this
     ·exact h4
    ·exact h4
   ·exact h
  ·exact h
 ·exact h

theorem amake_mono {t:TypeId} {x y:TV} {K K':TV→HM→Prop} (hk:∀ v m,K v m→K' v m) (h:amake G t x y m K):amake G t x y m K':=by
 unfold amake at *
 split at h
 ·split at h
  ·refine ⟨h.1,?_⟩
   have:=h.2
   simp only [snoc_eq] at this ⊢
   exact hk _ _ this
  ·exact h
 ·exact h

theorem aconv_mono {s d:TypeId} {x:TV} {K K':TV→HM→Prop} (hk:∀ v m,K v m→K' v m) (h:aconv G s d x m K):aconv G s d x m K':=by
 unfold aconv at *
 split at h
 ·split at h
  ·obtain ⟨l,h1,h2,h3,h4⟩:=h; exact ⟨l,h1,h2,h3,hk _ _ h4⟩
  ·exact h
 ·split at h
  ·exact ⟨h.1,fun a cap N1 g1 g2 g3 g4 g5=>hk _ _ (h.2 a cap N1 g1 g2 g3 g4 g5)⟩
  ·exact h
 ·exact h

theorem optM_mono {r:Option (TV×HM)} {K K':TV→HM→Prop} (hk:∀ v m,K v m→K' v m) (h:optM r K):optM r K':=by
 unfold optM at *
 split at h
 ·exact hk _ _ h
 ·exact h

theorem aop_mono {o:Oper} {K K':TV→HM→Prop} (hk:∀ v m,K v m→K' v m) (h:aop G o e m K):aop G o e m K':=by
 unfold aop at *
 split at h
 ·split at h
  ·exact hk _ _ h
  ·exact h
 ·split at h
  ·split at h
   ·exact hk _ _ h
   ·exact h
  ·exact h
 ·split at h
  ·exact aload_mono hk h
  ·exact h
 ·split at h
  ·split at h
   ·exact hk _ _ h
   ·exact h
  ·exact h
 ·split at h
  ·exact acall_mono hk h
  ·exact h
 ·split at h
  ·exact acopy_mono hk h
  ·exact h
 ·split at h
  ·exact aappend_mono hk h
  ·exact h
 ·split at h
  ·exact amake_mono hk h
  ·exact h
 ·split at h
  ·split at h
   ·exact optM_mono hk h
   ·exact h
  ·split at h
   ·exact hk _ _ h
   ·split at h
    ·split at h
     ·exact aconv_mono hk h
     ·exact h
    ·exact h

theorem acall_strict (hG:CfgOk G) {f:FuncId} {args:List TV} {K:TV→HM→Prop} (h:acall G f args m K):∃ v m',K v m':=by
 unfold acall at h
 split at h
 ·rename_i p hp
  obtain ⟨v,hK,_⟩:=hG.prim f p hp default args _ h
  exact ⟨v,m,hK⟩
 ·split at h
  ·obtain ⟨v,_,_,h3⟩:=h; exact ⟨v,m,h3⟩
  ·obtain ⟨K0,_,⟨v,N,hc,hv⟩,h3⟩:=h; exact ⟨v,_,h3 v N hc hv _ (fun _ _ h=>h)⟩
  ·obtain ⟨K0,_,⟨n,cap,k,N,hc,hv⟩,h3⟩:=h
   have:=h3 n cap k N hc hv _ (fun _ _ h=>h)
   simp only [snoc_eq] at this
   exact ⟨_,_,this⟩
  ·obtain ⟨R,_,⟨v,m',h2⟩,h3⟩:=h; exact ⟨v,m',h3 v m' h2⟩

theorem aop_strict (hG:CfgOk G) {o:Oper} {K:TV→HM→Prop} (h:aop G o e m K):∃ v m',K v m':=by
 unfold aop at h
 split at h
 ·split at h
  ·exact ⟨_,_,h⟩
  ·exact h.elim
 ·split at h
  ·split at h
   ·exact ⟨_,_,h⟩
   ·exact h.elim
  ·exact h.elim
 ·split at h
  ·unfold aload at h
   split at h
   ·split at h
    ·split at h
     ·exact ⟨_,_,h⟩
     ·exact h.elim
    ·exact h.elim
   ·obtain ⟨v,_,h2⟩:=h; exact ⟨_,_,h2⟩
   ·exact h.elim
  ·exact h.elim
 ·split at h
  ·split at h
   ·exact ⟨_,_,h⟩
   ·exact h.elim
  ·exact h.elim
 ·split at h
  ·exact acall_strict hG h
  ·exact h.elim
 ·split at h
  ·unfold acopy at h
   split at h
   ·split at h
    ·obtain ⟨us,_,h⟩:=h
     split at h
     ·exact ⟨_,_,h⟩
     ·exact h.elim
    ·exact h.elim
   ·exact h.elim
  ·exact h.elim
 ·split at h
  ·unfold aappend at h
   split at h
   ·split at h
    ·split at h
     ·obtain ⟨us,_,_,_,h⟩:=h
      split at h
      ·split at h
       ·exact ⟨_,_,h⟩
       have:=h.2.2 _ (Nat.le_refl _)
       simp only [snoc_eq] at this
       exact ⟨_,_,this⟩
      ·split at h
       ·obtain ⟨_,_,_,_,_,h⟩:=h
        have:=h _ (Nat.le_refl _)
        simp only [snoc_eq] at this
        exact ⟨_,_,this⟩
       ·exact h.elim
      ·exact h.elim
     ·exact h.elim
    ·exact h.elim
   ·exact h.elim
  ·exact h.elim
 ·split at h
  ·unfold amake at h
   split at h
   ·split at h
    ·have:=h.2
     simp only [snoc_eq] at this
     exact ⟨_,_,this⟩
    ·exact h.elim
   ·exact h.elim
  ·exact h.elim
 ·split at h
  ·split at h
   ·unfold optM at h
    split at h
    ·exact ⟨_,_,h⟩
    ·exact h.elim
   ·exact h.elim
  ·split at h
   ·exact ⟨_,_,h⟩
   ·split at h
    ·split at h
     ·unfold aconv at h
      split at h
      ·split at h
       ·obtain ⟨_,_,_,_,h⟩:=h; exact ⟨_,_,h⟩
       ·exact h.elim
      ·split at h
       ·rename_i t _ _
        refine ⟨_,_,h.2 ⟨0,0,none⟩ t.size (fun r o=>m.N r o∨(r=0∧o=.cells (t.data.map fun b=>.int .u8 b.toNat) 0 (0,0))) (Nat.le_refl _) rfl rfl (fun _ _ h=>.inl h) (fun i b hb=>?_)⟩
        refine ⟨_,_,_,.inr ⟨?_,rfl⟩,?_,?_⟩
        ·unfold Addr.add; split<;>rfl
        ·unfold Addr.add; split<;>rfl
        ·have:(Addr.add ⟨0,0,none⟩ i).off=i:=by unfold Addr.add; split<;>simp_all
         rw [this]; simp [hb]
       ·exact h.elim
      ·exact h.elim
     ·exact h.elim
    ·exact h.elim

end
end Go.Hv

namespace Go.Hv
open Go.Ev

section
variable {G:Cfg} {c:Con} {m:HM} {e e':Env} {a:Act} {w:World} {ops:Array Oper}

structure Grow (m m1:HM):Prop where
 bs:∀ b x,nth m.bs b=some x→nth m1.bs b=some x
 N:Base.le m.N m1.N

theorem Grow.snoc (m:HM) (x:Option Blk):Grow m ⟨m.bs++[x],m.N⟩:=⟨fun b y h=>by rw [nth_append_lt (nth_lt h)]; exact h,fun _ _ h=>h⟩

theorem bcell_le {B B':Base} (h:Base.le B B') {a:Addr} {v:Value} (hv:bcell B a v):bcell B' a v:=by
 obtain ⟨cells,el,fz,h1,h2⟩:=hv
 exact ⟨cells,el,fz,h _ _ h1,h2⟩

theorem or_le {A N N1:Base} (h:Base.le N N1):Base.le (A.or N) (A.or N1):=fun r o hr=>hr.elim .inl fun hr=>.inr (h r o hr)

theorem ERead_le {B B':Base} (h:Base.le B B') {ag:Bool} {size:Nat} {a:Addr} {v:TV} (hv:ERead B ag size a v):ERead B' ag size a v:=by
 unfold ERead at *
 cases ag with
 | false=>obtain ⟨s,h1,h2⟩:=hv; exact ⟨s,bcell_le h h1,h2⟩
 | true=>obtain ⟨l,h1,h2,h3⟩:=hv; exact ⟨l,h1,fun i s hs=>bcell_le h (h2 i s hs),h3⟩

theorem SliceHas_grow {A:Base} {m m1:HM} (h:Grow m m1) {s:TV} {k:Nat} {cells:List Sc} (hs:SliceHas A m s k cells):SliceHas A m1 s k cells:=by
 unfold SliceHas at *
 split at hs
 ·exact hs
 ·split at hs
  ·rename_i hx; rw [h.bs _ _ hx]; exact hs
  ·exact hs.elim
 ·exact ⟨hs.1,hs.2.1,fun i s hi=>bcell_le (or_le h.N) (hs.2.2 i s hi)⟩
 ·exact hs

theorem aop_kind0 {o:Oper} {K:TV→HM→Prop} (hk:opKind G o.op=0) (h:aop G o e m K):∃ v,pvalH G.T o.op e=some v∧K v m:=by
 unfold aop at h
 split at h
 ·rename_i ho; simp [opKind,ho] at hk
 ·rename_i ho; simp [opKind,ho] at hk
 ·rename_i ho; simp [opKind,ho] at hk
 ·rename_i ho; simp [opKind,ho] at hk
 ·rename_i f xs ts ho
  simp only [opKind,ho] at hk
  split at hk
  ·cases hk
  ·split at hk<;>cases hk
 ·rename_i ho; simp [opKind,ho] at hk
 ·rename_i ho; simp [opKind,ho] at hk
 ·rename_i ho; simp [opKind,ho] at hk
 ·split at h
  ·rename_i hn
   obtain ⟨ps,ho,rfl⟩:=newOp_some hn
   simp [opKind,ho,newOp] at hk
  ·split at h
   ·rename_i v hv; exact ⟨v,hv,h⟩
   ·split at h
    ·rename_i s d x ho
     exfalso
     split at h
     ·unfold aconv at h
      split at h
      ·rename_i h1 h2; simp [opKind,ho,h1,h2] at hk
      ·rename_i h1 h2; simp [opKind,ho,h1,h2] at hk
      ·exact h
     ·exact h
    ·exact h.elim

theorem aop_of_kind0 {o:Oper} {K:TV→HM→Prop} (hk:opKind G o.op=0) {v:TV} (hv:pvalH G.T o.op e=some v) (h:K v m):aop G o e m K:=by
 unfold aop
 split
 ·rename_i ho; simp [opKind,ho] at hk
 ·rename_i ho; simp [opKind,ho] at hk
 ·rename_i ho; simp [opKind,ho] at hk
 ·rename_i ho; simp [opKind,ho] at hk
 ·rename_i f xs ts ho
  simp only [opKind,ho] at hk
  split at hk
  ·cases hk
  ·split at hk<;>cases hk
 ·rename_i ho; simp [opKind,ho] at hk
 ·rename_i ho; simp [opKind,ho] at hk
 ·rename_i ho; simp [opKind,ho] at hk
 ·split
  ·rename_i hn
   obtain ⟨ps,ho,rfl⟩:=newOp_some hn
   simp [opKind,ho,newOp] at hk
  ·rw [hv]; exact h

theorem conv_pvalH {s d:TypeId} {x:Operand} {T:Tys} (h:∀ i,lk T d=some i→∀ k,i.k≠.int k):pvalH T (.convert s d x) e=none:=by
 have h1:pval T (.convert s d x) e=none:=by
  simp only [pval]
  split
  ·rename_i h1 h2 h3; exact absurd rfl (h _ h2 _)
  ·rfl
 have h2:pval2 T (.convert s d x) e=none:=rfl
 simp [pvalH,h1,h2]

inductive Reads (G:Cfg) (o:Oper) (e:Env):Prop where
 | load (t:TypeId) (x:Operand) (h:o.op=.load t x)
 | call (f:FuncId) (xs:Array Operand) (ts:Array TypeId) (h:o.op=.call { callee:=.value (.func f),args:=xs,argTypes:=ts }) (hk:(∃ p,G.prim f=some p)∨(G.prim f=none∧G.kind f=0))
 | conv (s d:TypeId) (x:Operand) (h:o.op=.convert s d x) (h1:∃ i el es eb ag,lk G.T s=some i∧i.k=.slice el es eb ag) (h2:∃ i,lk G.T d=some i∧i.k=.string)

theorem reads_of {o:Oper} (hk:opKind G o.op=1):Reads G o e:=by
 unfold opKind at hk
 split at hk
 ·cases hk
 ·cases hk
 ·cases hk
 ·cases hk
 ·rename_i t x ho; exact .load t x ho
 ·rename_i f xs ts ho
  refine .call f xs ts ho ?_
  split at hk
  ·rename_i p hp; exact .inl ⟨p,hp⟩
  ·rename_i hp
   refine .inr ⟨hp,?_⟩
   split at hk<;>first | assumption | cases hk
 ·cases hk
 ·cases hk
 ·rename_i s d x ho
  split at hk
  ·rename_i h1 h2; exact .conv s d x ho ⟨_,_,_,_,_,h1,rfl⟩ ⟨_,h2,rfl⟩
  ·cases hk
  ·cases hk
 ·split at hk<;>cases hk

theorem aop_load {o:Oper} {t:TypeId} {x:Operand} (ho:o.op=.load t x) {K:TV→HM→Prop}:aop G o e m K=match opv e x with
  | some v=>aload G t v m K
  | none=>False:=by unfold aop; rw [ho]<;>rfl

theorem aop_call {o:Oper} {f:FuncId} {xs:Array Operand} {ts:Array TypeId} (ho:o.op=.call { callee:=.value (.func f),args:=xs,argTypes:=ts }) {K:TV→HM→Prop}:aop G o e m K=match getOps e xs.toList with
  | some vs=>acall G f vs m K
  | none=>False:=by unfold aop; rw [ho]<;>rfl

theorem aop_conv {o:Oper} {s d:TypeId} {x:Operand} (ho:o.op=.convert s d x) (h2:∃ i,lk G.T d=some i∧∀ k,i.k≠.int k) {K:TV→HM→Prop}:aop G o e m K=match opv e x with
  | some v=>aconv G s d v m K
  | none=>False:=by
 obtain ⟨i,hi,hk⟩:=h2
 have:=conv_pvalH (e:=e) (s:=s) (d:=d) (x:=x) (T:=G.T) (fun j hj=>by rw [hi] at hj; simp only [Option.some.injEq] at hj; subst hj; exact hk)
 unfold aop
 rw [ho]
 simp only [newOp,this]<;>rfl

theorem aop_kind1 (hG:CfgOk G) {o:Oper} {K:TV→HM→Prop} (hk:opKind G o.op=1) (h:aop G o e m K):∃ v,(∀ m1,Grow m m1→aop G o e m1 (fun v' m'=>v'=v∧m'=m1))∧K v m:=by
 cases reads_of (e:=e) hk with
 | load t x ho=>
  simp only [aop_load ho] at h ⊢
  split at h
  ·rename_i u hu
   unfold aload at *
   split at h
   ·split at h
    ·rename_i k hn
     split at h
     ·rename_i v hv
      refine ⟨v,fun m1 hg=>?_,h⟩
      rw [hg.bs _ _ hn]
      simp only [hv]
      exact ⟨by trivial,by trivial⟩
     ·exact h.elim
    ·exact h.elim
   ·obtain ⟨v,h1,h2⟩:=h
    exact ⟨v,fun m1 hg=>⟨v,ERead_le (or_le hg.N) h1,rfl,rfl⟩,h2⟩
   ·exact h.elim
  ·exact h.elim
 | call f xs ts ho hc=>
  simp only [aop_call ho] at h ⊢
  split at h
  ·rename_i vs hvs
   unfold acall at *
   rcases hc with ⟨p,hp⟩ | ⟨hp,hkind⟩
   ·simp only [hp] at h ⊢
    obtain ⟨v,hK,hall,_⟩:=hG.prim f p hp default vs _ h
    exact ⟨v,fun m1 _=>hall _ ⟨rfl,by trivial⟩,hK⟩
   ·simp only [hp,hkind] at h ⊢
    obtain ⟨v,h1,h2,h3⟩:=h
    exact ⟨v,fun m1 _=>⟨v,h1,h2,by trivial,by trivial⟩,h3⟩
  ·exact h.elim
 | conv s d x ho h1 h2=>
  obtain ⟨i2,hi2,hk2⟩:=h2
  have hno:∃ i,lk G.T d=some i∧∀ k,i.k≠.int k:=⟨i2,hi2,fun k e=>by rw [hk2] at e; cases e⟩
  simp only [aop_conv ho hno] at h ⊢
  split at h
  ·rename_i u hu
   unfold aconv at *
   split at h
   ·split at h
    ·obtain ⟨l,g1,g2,g3,g4⟩:=h
     exact ⟨_,fun m1 hg=>⟨l,g1,SliceHas_grow hg g2,g3,rfl,rfl⟩,g4⟩
    ·exact h.elim
   ·rename_i hd; exfalso
    rw [hi2] at hd
    simp only [Option.some.injEq] at hd
    subst hd; cases hk2
   ·exact h.elim
  ·exact h.elim

def allocV (G:Cfg) (o:Oper) (e:Env) (n:Nat):Option (TV×Blk):=
 match o.op with
 | .alloc t=>match lk G.T t with
  | some i=>some (.one (.ptr (some (.loc n 0))),⟨i.zero,t,0,false⟩)
  | none=>none
 | .box t x=>match opv e x with
  | some v=>match v.cells with
   | some cs=>some (.one (.ptr (some (.loc n 0))),⟨cs,t,0,false⟩)
   | none=>none
  | none=>none
 | .buildSlice t k ps=>match opvP e ps.toList with
  | some vs=>match lk G.T t with
   | some { k:=.slice el es _ _,.. }=>match lk G.T el with
    | some i=>match decide (k*es≤16777216∧i.zero.length=es) with
     | true=>match fillA es (repS k i.zero) vs with
      | some cs=>some (.one (.slice (some (.loc n 0)) k k),⟨cs,el,0,false⟩)
      | none=>none
     | false=>none
    | none=>none
   | _=>none
  | none=>none
 | _=>none

theorem aop_kind3 {o:Oper} (hk:opKind G o.op=3) (m:HM) (K:TV→HM→Prop):aop G o e m K=match allocV G o e m.bs.length with
  | some (v,x)=>K v ⟨m.bs++[some x],m.N⟩
  | none=>False:=by
 unfold aop allocV
 unfold opKind at hk
 split at hk
 ·rename_i t ho
  simp only [ho,snoc_eq]
  split<;>simp_all
 ·rename_i t x ho
  simp only [ho,snoc_eq]
  split
  ·split<;>simp_all
  ·simp_all
 ·cases hk
 ·cases hk
 ·cases hk
 ·split at hk
  ·cases hk
  ·split at hk<;>cases hk
 ·cases hk
 ·cases hk
 ·split at hk<;>cases hk
 ·split at hk
  ·rename_i r hn
   obtain ⟨t,n,l⟩:=r
   obtain ⟨qs,ho,rfl⟩:=newOp_some hn
   simp only [ho,newOp]
   cases hvs:opvP e qs.toList with
   | none=>rfl
   | some vs=>
    simp only [abuild]
    cases hA:lk G.T t with
    | none=>rfl
    | some i=>
     obtain ⟨ag,size,zero,eqok,k⟩:=i
     cases k with
     | slice el es eb eagg=>
      simp only
      cases hB:lk G.T el with
      | none=>rfl
      | some j=>
       simp only
       cases hC:decide (n*es≤16777216∧j.zero.length=es) with
       | false=>rfl
       | true=>
        simp only
        cases hD:fillA es (repS n j.zero) vs with
        | none=>rfl
        | some cs=>simp only [snoc_eq,optM]
     | _=>rfl
  ·cases hk

theorem aop_grow {o:Oper} {K K':TV→HM→Prop} (hk:opKind G o.op=3∨opKind G o.op=4∨opKind G o.op=5) (hkk:∀ v m1,Grow m m1→K v m1→K' v m1) (h:aop G o e m K):aop G o e m K':=by
 rcases hk with hk | hk | hk
 ·rw [aop_kind3 hk] at h ⊢
  split at h
  ·exact hkk _ _ (Grow.snoc m _) h
  ·exact h
 all_goals
  unfold opKind at hk
  split at hk
  ·cases hk
  ·cases hk
  ·cases hk
  ·cases hk
  ·cases hk
  ·rename_i f xs ts ho
   simp only [aop_call ho] at h ⊢
   split at h
   ·unfold acall at *
    split at hk
    ·cases hk
    ·rename_i hp
     simp only [hp] at h ⊢
     split at hk
     ·cases hk
     ·rename_i hkd
      first
      | (
        simp only [hkd] at h ⊢
        obtain ⟨K0,h1,h2,h3⟩:=h
        exact ⟨K0,h1,h2,fun v N' hc hv N1 hN=>hkk _ _ ⟨fun _ _ h=>h,fun r o hr=>hN r o (.inl hr)⟩ (h3 v N' hc hv N1 hN)⟩)
      | cases hk
     ·rename_i hkd
      first
      | (
        simp only [hkd] at h ⊢
        obtain ⟨K0,h1,h2,h3⟩:=h
        refine ⟨K0,h1,h2,fun n cap k N' hc hv N1 hN=>?_⟩
        have:=h3 n cap k N' hc hv N1 hN
        simp only [snoc_eq] at this ⊢
        exact hkk _ _ ⟨fun b y h=>by rw [nth_append_lt (nth_lt h)]; exact h,fun r o hr=>hN r o (.inl hr)⟩ this)
      | cases hk
     ·cases hk
   ·exact h
  ·cases hk
  ·cases hk
  ·rename_i s d x ho
   split at hk
   ·cases hk
   ·rename_i h1 h2
    first
    | (
      simp only [aop_conv ho ⟨_,h2,fun k e=>by cases e⟩] at h ⊢
      split at h
      ·unfold aconv at *
       split at h
       ·rename_i h3 h4; rw [h1] at h3; cases h3
       ·split at h
        ·exact ⟨h.1,fun a cap N1 g1 g2 g3 g4 g5=>hkk _ _ ⟨fun _ _ h=>h,g4⟩ (h.2 a cap N1 g1 g2 g3 g4 g5)⟩
        ·exact h
       ·exact h
      ·exact h)
    | cases hk
   ·cases hk
  ·split at hk<;>cases hk

end
end Go.Hv

namespace Go.Hv
open Go.Ev
section
variable {G:Cfg} {ops:Array Oper}

theorem aop_kind4_ext {o:Oper} {e:Env} {m:HM} {x:Option Blk} {K K':TV→HM→Prop} (hk:opKind G o.op=4) (hkk:∀ v N1,K v ⟨m.bs,N1⟩→K' v ⟨m.bs++[x],N1⟩) (h:aop G o e m K):aop G o e ⟨m.bs++[x],m.N⟩ K':=by
 unfold opKind at hk
 split at hk
 ·cases hk
 ·cases hk
 ·cases hk
 ·cases hk
 ·cases hk
 ·rename_i f xs ts ho
  simp only [aop_call ho] at h ⊢
  split at h
  ·unfold acall at *
   split at hk
   ·cases hk
   ·rename_i hp
    simp only [hp] at h ⊢
    split at hk
    ·cases hk
    ·rename_i hkd
     simp only [hkd] at h ⊢
     obtain ⟨K0,h1,h2,h3⟩:=h
     refine ⟨K0,fun c B hB hL=>h1 c B hB (fun b y hy=>hL b y (by rw [nth_append_lt (nth_lt hy)]; exact hy)),h2,fun v N' hc hv N1 hN=>hkk _ _ (h3 v N' hc hv N1 hN)⟩
    ·cases hk
    ·cases hk
  ·exact h
 ·cases hk
 ·cases hk
 ·rename_i s d y ho
  split at hk
  ·cases hk
  ·rename_i h1 h2
   simp only [aop_conv ho ⟨_,h2,fun k e=>by cases e⟩] at h ⊢
   split at h
   ·unfold aconv at *
    split at h
    ·rename_i h3 h4; rw [h1] at h3; cases h3
    ·split at h
     ·exact ⟨h.1,fun a cap N1 g1 g2 g3 g4 g5=>hkk _ _ (h.2 a cap N1 g1 g2 g3 g4 g5)⟩
     ·exact h
    ·exact h
   ·exact h
  ·cases hk
 ·split at hk<;>cases hk

def aSt (G:Cfg) (ops:Array Oper) (o:Oper) (e:Env) (m:HM) (K:TV→HM→Prop):Prop:=
 match wantedA ops.toList o.guard e with
 | some true=>aop G o e m K
 | some false=>K (.tup []) m
 | none=>False

theorem wantedA_same {o:Oper} {e e':Env} (h:SameAt (o.looksAt ops) e e'):wantedA ops.toList o.guard e=wantedA ops.toList o.guard e':=by
 unfold wantedA
 cases hg:o.guard with
 | none=>rfl
 | some gw=>
  obtain ⟨j,want⟩:=gw
  simp only
  cases ho:ops.toList[j]? with
  | none=>rfl
  | some oj=>
   simp only
   cases hd:oj.dst with
   | none=>rfl
   | some t=>
    simp only
    have:t∈o.looksAt ops:=by
     unfold Oper.looksAt
     rw [hg]
     have:ops[j]?=some oj:=by simpa using ho
     simp [this,hd]
    rw [h t this]

theorem operands_same {o:Oper} {e e':Env} (h:SameAt (o.looksAt ops) e e'):∀ x∈o.op.operands.toList,opv e x=opv e' x:=fun x hx=>
 opv_same fun t ht=>h t (by
  unfold Oper.looksAt
  exact List.mem_append_left _ (List.mem_filterMap.2 ⟨x,hx,by rw [ht]⟩))

theorem aSt_same {o:Oper} {e e':Env} {m:HM} {K:TV→HM→Prop} (h:SameAt (o.looksAt ops) e e') (hh:aSt G ops o e m K):aSt G ops o e' m K:=by
 unfold aSt at *
 rw [← wantedA_same h]
 split at hh
 ·exact aop_same (operands_same h) hh
 ·exact hh
 ·exact hh

theorem aSt_mono {o:Oper} {e:Env} {m:HM} {K K':TV→HM→Prop} (hk:∀ v m,K v m→K' v m) (h:aSt G ops o e m K):aSt G ops o e m K':=by
 unfold aSt at *
 split at h
 ·exact aop_mono hk h
 ·exact hk _ _ h
 ·exact h

theorem aSt_strict (hG:CfgOk G) {o:Oper} {e:Env} {m:HM} {K:TV→HM→Prop} (h:aSt G ops o e m K):∃ v m',K v m':=by
 unfold aSt at h
 split at h
 ·exact aop_strict hG h
 ·exact ⟨_,_,h⟩
 ·exact h.elim

def pv0 (G:Cfg) (ops:Array Oper) (o:Oper) (e:Env):Option TV:=
 match wantedA ops.toList o.guard e with
 | some true=>pvalH G.T o.op e
 | some false=>some (.tup [])
 | none=>none

theorem aSt_kind0 {o:Oper} {e:Env} {m:HM} {K:TV→HM→Prop} (hk:opKind G o.op=0) (h:aSt G ops o e m K):∃ v,pv0 G ops o e=some v∧K v m:=by
 unfold aSt at h
 unfold pv0
 split at h
 ·exact aop_kind0 hk h
 ·exact ⟨_,rfl,h⟩
 ·exact h.elim

theorem aSt_of_kind0 {o:Oper} {e:Env} {m:HM} {K:TV→HM→Prop} (hk:opKind G o.op=0) {v:TV} (hv:pv0 G ops o e=some v) (h:K v m):aSt G ops o e m K:=by
 unfold aSt
 unfold pv0 at hv
 split at hv
 ·rename_i hw; exact aop_of_kind0 hk hv h
 ·rename_i hw
  simp only [Option.some.injEq] at hv
  subst hv; exact h
 ·cases hv

theorem aSt_kind1 (hG:CfgOk G) {o:Oper} {e:Env} {m:HM} {K:TV→HM→Prop} (hk:opKind G o.op=1) (h:aSt G ops o e m K):∃ v,(∀ m1,Grow m m1→aSt G ops o e m1 (fun v' m'=>v'=v∧m'=m1))∧K v m:=by
 unfold aSt at *
 split at h
 ·exact aop_kind1 hG hk h
 ·exact ⟨_,fun _ _=>⟨rfl,rfl⟩,h⟩
 ·exact h.elim

theorem Grow.refl (m:HM):Grow m m:=⟨fun _ _ h=>h,fun _ _ h=>h⟩

theorem aSt_grow {o:Oper} {e:Env} {m:HM} {K K':TV→HM→Prop} (hk:opKind G o.op=3∨opKind G o.op=4∨opKind G o.op=5) (hkk:∀ v m1,Grow m m1→K v m1→K' v m1) (h:aSt G ops o e m K):aSt G ops o e m K':=by
 unfold aSt at *
 split at h
 ·exact aop_grow hk hkk h
 ·exact hkk _ _ (Grow.refl m) h
 ·exact h.elim

theorem aSt_kind4_ext {o:Oper} {e:Env} {m:HM} {x:Option Blk} {K K':TV→HM→Prop} (hk:opKind G o.op=4) (hkk:∀ v N1,K v ⟨m.bs,N1⟩→K' v ⟨m.bs++[x],N1⟩) (h:aSt G ops o e m K):aSt G ops o e ⟨m.bs++[x],m.N⟩ K':=by
 unfold aSt at *
 split at h
 ·exact aop_kind4_ext hk hkk h
 ·exact hkk _ _ h
 ·exact h.elim

theorem swap (hG:CfgOk G) {oi oj:Oper} (hap:oi.apart ops oj=true) (hk:compat (opKind G oi.op) (opKind G oj.op)=true) {e:Env} {m:HM} {K:TV→TV→HM→Prop}
  (h:aSt G ops oi e m fun vi m1=>aSt G ops oj (putE oi.dst vi e) m1 fun vj m2=>K vi vj m2) :
  aSt G ops oj e m fun vj m1=>aSt G ops oi (putE oj.dst vj e) m1 fun vi m2=>K vi vj m2:=by
 obtain ⟨h1,h2,h3⟩:=Oper.apart_spec hap
 have put_same:∀ {x:Oper} {l:List Tmp} {v:TV},(∀ d,x.dst=some d→d ∉ l)→SameAt l (putE x.dst v e) e:=by
  intro x l v hx t ht
  cases hd:x.dst with
  | none=>rfl
  | some d=>
   simp only [putE,Ev.get]
   have:Nat.beq d t=false:=by
    cases hb:Nat.beq d t with
    | false=>rfl
    | true=>exact absurd ht (by have:=Nat.eq_of_beq_eq_true hb; subst this; exact hx d hd)
   rw [this]
 have h':aSt G ops oi e m fun vi m1=>aSt G ops oj e m1 fun vj m2=>K vi vj m2:=aSt_mono (fun vi m1 hh=>aSt_same (put_same h1) hh) h
 refine aSt_mono (fun vj m1 (hh:aSt G ops oi e m1 fun vi m2=>K vi vj m2)=>aSt_same (fun t ht=>(put_same h3 t ht).symm) hh) ?_
 have second0:opKind G oj.op=0→aSt G ops oj e m fun vj m1=>aSt G ops oi e m1 fun vi m2=>K vi vj m2:=fun kj=>by
  obtain ⟨vi,m1,hh⟩:=aSt_strict hG h'
  obtain ⟨vj,hv,_⟩:=aSt_kind0 kj hh
  refine aSt_of_kind0 kj hv (aSt_mono (fun vi m1 hh=>?_) h')
  obtain ⟨vj',hv',hK⟩:=aSt_kind0 kj hh
  rw [hv] at hv'
  simp only [Option.some.injEq] at hv'
  subst hv'; exact hK
 have grows:opKind G oi.op=1→(opKind G oj.op=3∨opKind G oj.op=4∨opKind G oj.op=5)→aSt G ops oj e m fun vj m1=>aSt G ops oi e m1 fun vi m2=>K vi vj m2:=fun ki kj=>by
  obtain ⟨vi,hi,hh⟩:=aSt_kind1 hG ki h'
  exact aSt_grow kj (fun v m1 hg hK=>aSt_mono (fun v' m' e'=>by obtain ⟨rfl,rfl⟩:=e'; exact hK) (hi m1 hg)) hh
 generalize hki:opKind G oi.op=ki at hk grows
 generalize hkj:opKind G oj.op=kj at hk grows second0
 unfold compat at hk
 split at hk
 ·obtain ⟨vi,hv,hK⟩:=aSt_kind0 hki h'
  exact aSt_mono (fun vj m1 hh=>aSt_of_kind0 hki hv hh) hK
 ·exact second0 rfl
 ·obtain ⟨vi,hi,hh⟩:=aSt_kind1 hG hki h'
  obtain ⟨vj,hj,hK⟩:=aSt_kind1 hG hkj hh
  refine aSt_mono (fun v' m' e'=>?_) (hj m (Grow.refl m))
  obtain ⟨rfl,rfl⟩:=e'
  refine aSt_mono (fun v'' m'' e''=>?_) (hi m' (Grow.refl m'))
  obtain ⟨rfl,rfl⟩:=e''
  exact hK
 ·exact grows rfl (.inl rfl)
 ·exact grows rfl (.inr (.inl rfl))
 ·exact grows rfl (.inr (.inr rfl))
 ·have one:∀ (m1:HM) (K1:TV→HM→Prop),aSt G ops oj e m1 K1=match wantedA ops.toList oj.guard e with
    | some true=>(match allocV G oj e m1.bs.length with
     | some (v,x)=>K1 v ⟨m1.bs++[some x],m1.N⟩
     | none=>False)
    | some false=>K1 (.tup []) m1
    | none=>False:=fun m1 K1=>by
   unfold aSt
   cases hw:wantedA ops.toList oj.guard e with
   | none=>rfl
   | some b=>cases b with
    | true=>exact aop_kind3 hkj m1 K1
    | false=>rfl
  simp only [one] at h' ⊢
  cases hw:wantedA ops.toList oj.guard e with
  | none=>
   simp only [hw] at h'
   obtain ⟨_,_,hh⟩:=aSt_strict hG h'
   exact hh.elim
  | some b=>
   cases b with
   | false=>simp only [hw] at h' ⊢; exact h'
   | true=>
    simp only [hw] at h' ⊢
    cases hal:allocV G oj e m.bs.length with
    | none=>
     exfalso
     have:=aSt_kind4_ext (x:=none) (K':=fun _ _=>False) hki (fun v N1 hh=>by simp only [hal] at hh) h'
     obtain ⟨_,_,hh⟩:=aSt_strict hG this
     exact hh
    | some vx=>
     obtain ⟨v,x⟩:=vx
     exact aSt_kind4_ext hki (fun v' N1 hh=>by simpa only [hal] using hh) h'
 ·cases hk

def aAt (G:Cfg) (ops:Array Oper) (i:Nat) (K:Env→HM→Prop) (e:Env) (m:HM):Prop:=
 match ops[i]? with
 | none=>K e m
 | some o=>aSt G ops o e m fun v m'=>K (putE o.dst v e) m'

def aAny (G:Cfg) (ops:Array Oper) (K:Env→HM→Prop):Nat→Array Bool→Env→HM→Prop
 | 0,listed,e,m=>Region.ready .any ops listed=[]∧K e m
 | f+1,listed,e,m=>(Region.ready .any ops listed=[]→K e m)∧∀ i∈Region.ready .any ops listed,aAt G ops i (aAny G ops K f (listed.setIfInBounds i true)) e m

theorem EnvEq.put {e e':Env} (h:EnvEq e e') (d:Option Tmp) (v:TV):EnvEq (putE d v e) (putE d v e'):=by
 cases d with
 | none=>exact h
 | some t=>
  intro s
  simp only [putE,Ev.get]
  split
  ·rfl
  ·exact h s

theorem aAny_resp {K:Env→HM→Prop} (hK:∀ e e' m,EnvEq e e'→K e m→K e' m):∀ (f:Nat) (listed:Array Bool) (e e':Env) (m:HM),EnvEq e e'→aAny G ops K f listed e m→aAny G ops K f listed e' m
 | 0,listed,e,e',m,he,h=>⟨h.1,hK _ _ _ he h.2⟩
 | f+1,listed,e,e',m,he,h=>by
  refine ⟨fun h0=>hK _ _ _ he (h.1 h0),fun i hi=>?_⟩
  have hh:=h.2 i hi
  unfold aAt at *
  split at hh
  ·exact aAny_resp hK f _ _ _ _ he hh
  ·rename_i o ho
   exact aSt_same (fun t _=>he t) (aSt_mono (fun v m' hx=>aAny_resp hK f _ _ _ _ (he.put o.dst v) hx) hh)

theorem put_comm {x y:Option Tmp} (h:∀ d,x=some d→y≠some d) (v u:TV) (e:Env):EnvEq (putE x v (putE y u e)) (putE y u (putE x v e)):=by
 intro s
 cases x with
 | none=>rfl
 | some d=>
  cases y with
  | none=>rfl
  | some d'=>
   have hne:d≠d':=fun e=>h d rfl (by rw [e])
   simp only [putE,Ev.get]
   cases h1:Nat.beq d s with
   | false=>rfl
   | true=>
    have h1:=Nat.eq_of_beq_eq_true h1
    have h2:Nat.beq d' s=false:=by
     cases h2:Nat.beq d' s with
     | false=>rfl
     | true=>exact absurd (h1.trans (Nat.eq_of_beq_eq_true h2).symm) hne
    simp [h2]

theorem aAny_first (hG:CfgOk G) {K:Env→HM→Prop} (hK:∀ e e' m,EnvEq e e'→K e m→K e' m) {i:Nat} {oi:Oper} (hi:ops[i]?=some oi) (A:Nat→Bool)
  (hA:∀ j oj,ops[j]?=some oj→A j=true→∃ d∈oj.after,Region.binds .any d=true∧(d.on=i∨A d.on=true)) :
  ∀ (f:Nat) (listed:Array Bool) (e:Env) (m:HM),(∀ j,A j=true→listed.getD j true=false) →
   (∀ j oj,ops[j]?=some oj→j≠i→listed.getD j true=false→A j=false→oi.apart ops oj=true∧compat (opKind G oi.op) (opKind G oj.op)=true) →
   i∈Region.ready .any ops listed→aSt G ops oi e m (fun v m'=>aAny G ops K f (listed.setIfInBounds i true) (putE oi.dst v e) m')→aAny G ops K (f+1) listed e m:=by
 intro f
 induction f with
 | zero=>
  intro listed e m _ _ hr H
  refine ⟨fun h=>(by rw [h] at hr; cases hr),fun j hj=>?_⟩
  by_cases hji:j=i
  ·subst hji; unfold aAt; simp only [hi]; exact H
  ·have:=ready_mono hj hji
   obtain ⟨v,m',hh⟩:=aSt_strict hG H
   rw [hh.1] at this
   cases this
 | succ f ih=>
  intro listed e m hlist hfree hr H
  refine ⟨fun h=>(by rw [h] at hr; cases hr),fun j hj=>?_⟩
  by_cases hji:j=i
  ·subst hji; unfold aAt; simp only [hi]; exact H
  ·obtain ⟨hjun,oj,hoj,hall⟩:=mem_ready.1 hj
   have unl:∀ k,listed.getD k true=false→listed.getD k false=true→False:=fun k h0 h1=>by
    rcases Nat.lt_or_ge k listed.size with h' | h'
    ·simp [h'] at h0 h1; rw [h0] at h1; cases h1
    ·simp [Array.getElem?_eq_none h'] at h1
   have hnot:A j=false:=by
    cases hAj:A j with
    | false=>rfl
    | true=>
     obtain ⟨d,hd,hb,hon⟩:=hA j oj hoj hAj
     have h1:=hall d hd hb
     rcases hon with heq | heq
     ·rw [heq] at h1
      exact (unl i (mem_ready.1 hr).1 h1).elim
     ·exact (unl d.on (hlist d.on heq) h1).elim
   obtain ⟨hap,hco⟩:=hfree j oj hoj hji hjun hnot
   have h1:aSt G ops oi e m fun vi m1=>aSt G ops oj (putE oi.dst vi e) m1 fun vj m2=>aAny G ops K f ((listed.setIfInBounds i true).setIfInBounds j true) (putE oj.dst vj (putE oi.dst vi e)) m2:=
    aSt_mono (fun v m' hh=>by
     have:=hh.2 j (ready_mono hj hji)
     unfold aAt at this
     simpa only [hoj] using this) H
   have h2:=swap hG hap hco h1
   unfold aAt
   simp only [hoj]
   refine aSt_mono (fun vj m1 hh=>?_) h2
   refine ih (listed.setIfInBounds j true) (putE oj.dst vj e) m1 (fun k hk=>?_) (fun k ok hk hki hun hno=>?_) (ready_mono hr (Ne.symm hji)) (aSt_mono (fun vi m2 hh'=>?_) hh)
   ·have hjk:¬ j=k:=fun h=>by rw [← h,hnot] at hk; cases hk
    rw [getD_set_ne true hjk]
    exact hlist k hk
   ·refine hfree k ok hk hki ?_ hno
    by_cases hjk:j=k
    ·subst hjk; exact hjun
    ·rw [getD_set_ne true hjk] at hun; exact hun
   ·rw [Array.setIfInBounds_comm _ _ (Ne.symm hji)] at hh'
    exact aAny_resp hK f _ _ _ _ (put_comm (fun d hd hd'=>(Oper.apart_spec hap).2.1 d hd' hd) vj vi e) hh'

def LS (ops:Array Oper) (e:Env) (oi oj:Oper):Prop:=
 ∃ x y,loadX oi.op=some x∧storeY oj.op=some y∧(wantedA ops.toList oi.guard e=some true→sepP (opv e x) (opv e y)=true)

theorem loadX_some {op:Op} {x:Operand} (h:loadX op=some x):∃ t,op=.load t x:=by
 unfold loadX at h
 split at h
 ·simp only [Option.some.injEq] at h; subst h; exact ⟨_,rfl⟩
 ·cases h

theorem storeY_some {op:Op} {y:Operand} (h:storeY op=some y):∃ t v,op=.store t y v:=by
 unfold storeY at h
 split at h
 ·simp only [Option.some.injEq] at h; subst h; exact ⟨_,_,rfl⟩
 ·cases h

theorem aop_store {o:Oper} {t:TypeId} {x y:Operand} {e:Env} {m:HM} (ho:o.op=.store t x y) {K:TV→HM→Prop}:aop G o e m K=match opv e x,opv e y with
  | some v,some u=>match astore G t v u m with
   | some m'=>K (.tup []) m'
   | none=>False
  | _,_=>False:=by unfold aop; rw [ho]<;>rfl

theorem astore_spec {t:TypeId} {q w:TV} {m m':HM} (h:astore G t q w m=some m'):m'.N=m.N∧∃ b o x,q=.one (.ptr (some (.loc b o)))∧m'.bs=setB m.bs b x:=by
 unfold astore at h
 split at h
 ·split at h
  ·split at h
   ·split at h
    ·simp only [Option.some.injEq] at h
     subst h
     exact ⟨rfl,_,_,_,rfl,rfl⟩
    ·cases h
   ·cases h
  ·cases h
 ·cases h

theorem aload_sep {t:TypeId} {u:TV} {m:HM} {K:TV→HM→Prop} (h:aload G t u m K):∃ v,K v m ∧
  ∀ t' q w m' K',astore G t' q w m=some m'→sepP (some u) (some q)=true→K' v m'→aload G t u m' K':=by
 unfold aload at h
 split at h
 ·rename_i i b o hlk
  split at h
  ·rename_i k hk
   split at h
   ·rename_i v hv
    refine ⟨v,h,fun t' q w m' K' hst hsep hK=>?_⟩
    obtain ⟨_,b',o',x,rfl,hbs⟩:=astore_spec hst
    have hne:¬ b=b':=by
     intro he
     subst he
     simp [sepP] at hsep
    unfold aload
    simp only [hlk,hbs,nth_setB_ne (Ne.symm hne),hk,hv]
    exact hK
   ·exact h.elim
  ·exact h.elim
 ·rename_i i a hlk
  obtain ⟨v,hv,h⟩:=h
  refine ⟨v,h,fun t' q w m' K' hst hsep hK=>?_⟩
  obtain ⟨hN,_⟩:=astore_spec hst
  unfold aload
  simp only [hlk]
  exact ⟨v,by rw [hN]; exact hv,hK⟩
 ·exact h.elim

theorem swapS {oi oj:Oper} (hap:oi.apart ops oj=true) {e:Env} {m:HM} (hls:LS ops e oi oj) {K:TV→TV→HM→Prop}
  (h:aSt G ops oi e m fun vi m1=>aSt G ops oj (putE oi.dst vi e) m1 fun vj m2=>K vi vj m2) :
  aSt G ops oj e m fun vj m1=>aSt G ops oi (putE oj.dst vj e) m1 fun vi m2=>K vi vj m2:=by
 obtain ⟨h1,h2,h3⟩:=Oper.apart_spec hap
 have put_same:∀ {x:Oper} {l:List Tmp} {v:TV},(∀ d,x.dst=some d→d ∉ l)→SameAt l (putE x.dst v e) e:=by
  intro x l v hx t ht
  cases hd:x.dst with
  | none=>rfl
  | some d=>
   simp only [putE,Ev.get]
   have:Nat.beq d t=false:=by
    cases hb:Nat.beq d t with
    | false=>rfl
    | true=>exact absurd ht (by have:=Nat.eq_of_beq_eq_true hb; subst this; exact hx d hd)
   rw [this]
 have h':aSt G ops oi e m fun vi m1=>aSt G ops oj e m1 fun vj m2=>K vi vj m2:=aSt_mono (fun vi m1 hh=>aSt_same (put_same h1) hh) h
 refine aSt_mono (fun vj m1 (hh:aSt G ops oi e m1 fun vi m2=>K vi vj m2)=>aSt_same (fun t ht=>(put_same h3 t ht).symm) hh) ?_
 obtain ⟨x,y,hx,hy,hsep⟩:=hls
 obtain ⟨t,ht⟩:=loadX_some hx
 obtain ⟨t',v',hs⟩:=storeY_some hy
 unfold aSt at h' ⊢
 cases hw:wantedA ops.toList oi.guard e with
 | none=>simp only [hw] at h'
 | some b=>
  cases b with
  | false=>simp only [hw] at h' ⊢; exact h'
  | true=>
   have hsep:=hsep hw
   simp only [hw,aop_load ht] at h' ⊢
   cases hu:opv e x with
   | none=>simp only [hu] at h'
   | some u=>
    rw [hu] at hsep
    simp only [hu] at h' ⊢
    obtain ⟨v,hK,hre⟩:=aload_sep h'
    cases hw2:wantedA ops.toList oj.guard e with
    | none=>simp only [hw2] at hK
    | some b2=>
     cases b2 with
     | false=>simp only [hw2] at h' ⊢; exact h'
     | true=>
      simp only [hw2,aop_store hs] at hK ⊢
      split at hK
      ·rename_i p q hp hq
       rw [hp] at hsep
       try simp only [hp,hq]
       split at hK
       ·rename_i m' hm'
        try simp only [hm']
        exact hre _ _ _ _ _ hm' hsep hK
       ·exact hK.elim
      ·exact hK.elim

theorem freeK_spec {i:Nat} {oi:Oper} {listed:Array Bool} (hi:ops[i]?=some oi) (h:freeK G ops listed i=true):∃ A:Nat→Bool,
  (∀ j oj,ops[j]?=some oj→A j=true→∃ d∈oj.after,Region.binds .any d=true∧(d.on=i∨A d.on=true))∧(∀ j,A j=true→listed.getD j true=false) ∧
  (∀ j oj,ops[j]?=some oj→j≠i→listed.getD j true=false→A j=false→oi.apart ops oj=true∧compat (opKind G oi.op) (opKind G oj.op)=true):=by
 simp only [freeK,hi,freeA,List.all_eq_true,List.mem_range] at h
 generalize behind i ops.toList 0 0=M at h
 refine ⟨fun j=>Nat.blt j ops.size&&M.testBit j,fun j oj hj hAj=>?_,fun j hAj=>?_,fun j oj hj hne hun hAj=>?_⟩
 ·simp only [Bool.and_eq_true] at hAj
  have h1:=h j (Array.getElem?_eq_some_iff.1 hj).1
  simp only [hAj.2,hj,Bool.and_eq_true] at h1
  obtain ⟨d,hd,hb⟩:=Array.any_eq_true'.1 h1.2
  simp only [Bool.and_eq_true,Bool.or_eq_true] at hb
  refine ⟨d,hd,hb.1,?_⟩
  rcases hb.2 with hb | hb
  ·exact .inl (Nat.eq_of_beq_eq_true hb)
  ·exact .inr (by simpa using hb)
 ·simp only [Bool.and_eq_true] at hAj
  have h1:=h j (by simpa using hAj.1)
  simp only [hAj.2,Bool.and_eq_true,beq_iff_eq] at h1
  exact h1.1
 ·have hlt:=(Array.getElem?_eq_some_iff.1 hj).1
  have hb:Nat.blt j ops.size=true:=by simpa using hlt
  have hM:M.testBit j=false:=by simpa [hb] using hAj
  have h1:=h j hlt
  simp only [hM,hj,Bool.or_eq_true,beq_iff_eq,hne,false_or,hun,Bool.false_eq_true] at h1
  simpa using h1

theorem aAny_lex (hG:CfgOk G) {K:Env→HM→Prop} (hK:∀ e e' m,EnvEq e e'→K e m→K e' m):∀ (l:List Nat) (listed:Array Bool) (e:Env) (m:HM),
  lexK G ops l listed=true→aopsL G ops.toList (pickL ops.toList l) e m K→aAny G ops K l.length listed e m
 | [],_,_,_,hB,h=>⟨by simpa [lexK] using hB,h⟩
 | k::l,listed,e,m,hB,h=>by
  simp only [lexK,Bool.and_eq_true] at hB
  obtain ⟨⟨hr,hf⟩,hB'⟩:=hB
  obtain ⟨o,h0⟩:∃ o,ops[k]?=some o:=by
   unfold freeK at hf
   split at hf
   ·cases hf
   ·rename_i o ho; exact ⟨o,ho⟩
  have h0':ops.toList[k]?=some o:=by simpa using h0
  obtain ⟨A,hA,h1,h2⟩:=freeK_spec h0 hf
  refine aAny_first hG hK h0 A hA l.length listed e m h1 h2 (by simpa using hr) ?_
  unfold aSt
  simp only [pickL,h0',aopsL] at h
  split at h
  ·rename_i hw; (try simp only [hw]); exact aop_mono (fun v m' hh=>aAny_lex hG hK l _ _ _ hB' hh) h
  ·rename_i hw; (try simp only [hw]); exact aAny_lex hG hK l _ _ _ hB' h
  ·exact h.elim

theorem LS.put {e:Env} {oi oj:Oper} (h:LS ops e oi oj) {d:Option Tmp} {v:TV} (hx:∀ t,d=some t→t ∉ oi.looksAt ops) (hy:∀ y,storeY oj.op=some y→∀ t,d=some t→y≠.tmp t):LS ops (putE d v e) oi oj:=by
 obtain ⟨x,y,h1,h2,h3⟩:=h
 have hs:SameAt (oi.looksAt ops) (putE d v e) e:=by
  intro t ht
  cases hd:d with
  | none=>rfl
  | some d'=>
   simp only [putE,Ev.get]
   have:Nat.beq d' t=false:=by
    cases hb:Nat.beq d' t with
    | false=>rfl
    | true=>exact absurd ht (by have:=Nat.eq_of_beq_eq_true hb; subst this; exact hx d' hd)
   rw [this]
 refine ⟨x,y,h1,h2,fun hw=>?_⟩
 rw [wantedA_same hs] at hw
 have hxo:opv (putE d v e) x=opv e x:=by
  obtain ⟨t,ht⟩:=loadX_some h1
  exact operands_same hs x (by rw [ht]; simp [Op.operands])
 have hyo:opv (putE d v e) y=opv e y:=by
  refine opv_same fun t ht=>?_
  cases hd:d with
  | none=>rfl
  | some d'=>
   simp only [putE,Ev.get]
   have:Nat.beq d' t=false:=by
    cases hb:Nat.beq d' t with
    | false=>rfl
    | true=>exact absurd ht (by have:=Nat.eq_of_beq_eq_true hb; subst this; exact hy y h2 d' hd)
   rw [this]
 rw [hxo,hyo]
 exact h3 hw

theorem aAny_firstS (hG:CfgOk G) {K:Env→HM→Prop} (hK:∀ e e' m,EnvEq e e'→K e m→K e' m) {i:Nat} {oi:Oper} (hi:ops[i]?=some oi) (A:Nat→Bool)
  (hA:∀ j oj,ops[j]?=some oj→A j=true→∃ d∈oj.after,Region.binds .any d=true∧(d.on=i∨A d.on=true)) :
  ∀ (f:Nat) (listed:Array Bool) (e:Env) (m:HM),(∀ j,A j=true→listed.getD j true=false) →
   (∀ j oj,ops[j]?=some oj→j≠i→listed.getD j true=false→A j=false→oi.apart ops oj=true∧(compat (opKind G oi.op) (opKind G oj.op)=true ∨
    (LS ops e oi oj∧∀ y,storeY oj.op=some y→∀ k ok,ops[k]?=some ok→listed.getD k true=false→∀ d,ok.dst=some d→y≠.tmp d))) →
   i∈Region.ready .any ops listed→aSt G ops oi e m (fun v m'=>aAny G ops K f (listed.setIfInBounds i true) (putE oi.dst v e) m')→aAny G ops K (f+1) listed e m:=by
 intro f
 induction f with
 | zero=>
  intro listed e m _ _ hr H
  refine ⟨fun h=>(by rw [h] at hr; cases hr),fun j hj=>?_⟩
  by_cases hji:j=i
  ·subst hji; unfold aAt; simp only [hi]; exact H
  ·have:=ready_mono hj hji
   obtain ⟨v,m',hh⟩:=aSt_strict hG H
   rw [hh.1] at this
   cases this
 | succ f ih=>
  intro listed e m hlist hfree hr H
  refine ⟨fun h=>(by rw [h] at hr; cases hr),fun j hj=>?_⟩
  by_cases hji:j=i
  ·subst hji; unfold aAt; simp only [hi]; exact H
  ·obtain ⟨hjun,oj,hoj,hall⟩:=mem_ready.1 hj
   have unl:∀ k,listed.getD k true=false→listed.getD k false=true→False:=fun k h0 h1=>by
    rcases Nat.lt_or_ge k listed.size with h' | h'
    ·simp [h'] at h0 h1; rw [h0] at h1; cases h1
    ·simp [Array.getElem?_eq_none h'] at h1
   have hnot:A j=false:=by
    cases hAj:A j with
    | false=>rfl
    | true=>
     obtain ⟨d,hd,hb,hon⟩:=hA j oj hoj hAj
     have h1:=hall d hd hb
     rcases hon with heq | heq
     ·rw [heq] at h1
      exact (unl i (mem_ready.1 hr).1 h1).elim
     ·exact (unl d.on (hlist d.on heq) h1).elim
   obtain ⟨hap,hco⟩:=hfree j oj hoj hji hjun hnot
   have h1:aSt G ops oi e m fun vi m1=>aSt G ops oj (putE oi.dst vi e) m1 fun vj m2=>aAny G ops K f ((listed.setIfInBounds i true).setIfInBounds j true) (putE oj.dst vj (putE oi.dst vi e)) m2:=
    aSt_mono (fun v m' hh=>by
     have:=hh.2 j (ready_mono hj hji)
     unfold aAt at this
     simpa only [hoj] using this) H
   have h2:=hco.elim (fun hco=>swap hG hap hco h1) (fun hls=>swapS hap hls.1 h1)
   unfold aAt
   simp only [hoj]
   refine aSt_mono (fun vj m1 hh=>?_) h2
   refine ih (listed.setIfInBounds j true) (putE oj.dst vj e) m1 (fun k hk=>?_) (fun k ok hk hki hun hno=>?_) (ready_mono hr (Ne.symm hji)) (aSt_mono (fun vi m2 hh'=>?_) hh)
   ·have hjk:¬ j=k:=fun h=>by rw [← h,hnot] at hk; cases hk
    rw [getD_set_ne true hjk]
    exact hlist k hk
   ·have hun':listed.getD k true=false:=by
     by_cases hjk:j=k
     ·subst hjk; exact hjun
     ·rw [getD_set_ne true hjk] at hun; exact hun
    obtain ⟨g1,g2⟩:=hfree k ok hk hki hun' hno
    refine ⟨g1,g2.elim .inl fun ⟨g3,g4⟩=>.inr ⟨g3.put (fun t ht=>(Oper.apart_spec hap).2.2 t ht) (fun y hy t ht=>g4 y hy j oj hoj hjun t ht),fun y hy k2 ok2 hk2 hun2=>?_⟩⟩
    refine g4 y hy k2 ok2 hk2 ?_
    by_cases hjk:j=k2
    ·subst hjk; exact hjun
    ·rw [getD_set_ne true hjk] at hun2; exact hun2
   ·rw [Array.setIfInBounds_comm _ _ (Ne.symm hji)] at hh'
    exact aAny_resp hK f _ _ _ _ (put_comm (fun d hd hd'=>(Oper.apart_spec hap).2.1 d hd' hd) vj vi e) hh'

theorem settled_spec {listed:Array Bool} {y:Operand} (h:settled ops listed y=true):∀ k ok,ops[k]?=some ok→listed.getD k true=false→∀ d,ok.dst=some d→y≠.tmp d:=by
 intro k ok hk hun d hd he
 subst he
 simp only [settled,List.all_eq_true,List.mem_range] at h
 have h1:=h k (Array.getElem?_eq_some_iff.1 hk).1
 simp [hun,hk,hd] at h1

theorem freeS_spec {i:Nat} {oi:Oper} {listed:Array Bool} {M:Nat} (h:freeS G ops listed i oi M=true):∃ A:Nat→Bool,(∀ j,A j=(Nat.blt j ops.size&&M.testBit j)) ∧
  (∀ j oj,ops[j]?=some oj→A j=true→∃ d∈oj.after,Region.binds .any d=true∧(d.on=i∨A d.on=true))∧(∀ j,A j=true→listed.getD j true=false) ∧
  (∀ j oj,ops[j]?=some oj→j≠i→listed.getD j true=false→A j=false→oi.apart ops oj=true∧compatS G ops listed oi.op oj.op=true):=by
 simp only [freeS,List.all_eq_true,List.mem_range] at h
 refine ⟨fun j=>Nat.blt j ops.size&&M.testBit j,fun _=>rfl,fun j oj hj hAj=>?_,fun j hAj=>?_,fun j oj hj hne hun hAj=>?_⟩
 ·simp only [Bool.and_eq_true] at hAj
  have h1:=h j (Array.getElem?_eq_some_iff.1 hj).1
  simp only [hAj.2,hj,Bool.and_eq_true] at h1
  obtain ⟨d,hd,hb⟩:=Array.any_eq_true'.1 h1.2
  simp only [Bool.and_eq_true,Bool.or_eq_true] at hb
  refine ⟨d,hd,hb.1,?_⟩
  rcases hb.2 with hb | hb
  ·exact .inl (Nat.eq_of_beq_eq_true hb)
  ·exact .inr (by simpa using hb)
 ·simp only [Bool.and_eq_true] at hAj
  have h1:=h j (by simpa using hAj.1)
  simp only [hAj.2,Bool.and_eq_true,beq_iff_eq] at h1
  exact h1.1
 ·have hlt:=(Array.getElem?_eq_some_iff.1 hj).1
  have hb:Nat.blt j ops.size=true:=by simpa using hlt
  have hM:M.testBit j=false:=by simpa [hb] using hAj
  have h1:=h j hlt
  simp only [hM,hj,Bool.or_eq_true,beq_iff_eq,hne,false_or,hun,Bool.false_eq_true] at h1
  simpa using h1

theorem aAny_lexS (hG:CfgOk G) {K:Env→HM→Prop} (hK:∀ e e' m,EnvEq e e'→K e m→K e' m):∀ (l:List Nat) (listed:Array Bool) (e:Env) (m:HM),
  lexS G ops l listed=true→aopsS G ops l e m K→aAny G ops K l.length listed e m
 | [],_,_,_,hB,h=>⟨by simpa [lexS] using hB,h⟩
 | k::l,listed,e,m,hB,h=>by
  simp only [lexS,Bool.and_eq_true] at hB
  obtain ⟨hB1,hB'⟩:=hB
  cases h0:ops[k]? with
  | none=>simp only [h0] at hB1; cases hB1
  | some o=>
   simp only [h0,Bool.and_eq_true] at hB1
   obtain ⟨⟨hr,hf⟩,hin⟩:=hB1
   obtain ⟨A,hAm,hA,h1,h2⟩:=freeS_spec hf
   simp only [aopsS,h0] at h
   have hmem:∀ j oj,ops[j]?=some oj→j≠k→listed.getD j true=false→j∈l∧(depB ops k j=true→(behind k ops.toList 0 0).testBit j=true):=fun j oj hj hjk hun=>by
    simp only [List.all_eq_true,List.mem_range] at hin
    have:=hin j (Array.getElem?_eq_some_iff.1 hj).1
    simp only [hun,Bool.false_or,Bool.or_eq_true,beq_iff_eq,hjk,false_or,Bool.and_eq_true,List.contains_iff_mem,Bool.not_eq_true'] at this
    exact ⟨this.1,fun hd=>this.2.resolve_left (by rw [hd]; simp)⟩
   refine aAny_firstS hG hK h0 A hA l.length listed e m h1 (fun j oj hj hjk hun hAj=>?_) (by simpa using hr) ?_
   ·obtain ⟨g1,g2⟩:=h2 j oj hj hjk hun hAj
    refine ⟨g1,?_⟩
    unfold compatS at g2
    simp only [Bool.or_eq_true] at g2
    rcases g2 with g2 | g2
    ·exact .inl g2
    ·cases hx:loadX o.op with
     | none=>simp only [hx] at g2; cases g2
     | some x=>
      cases hy:storeY oj.op with
      | none=>simp only [hx,hy] at g2; cases g2
      | some y=>
       simp only [hx,hy] at g2
       refine .inr ⟨⟨x,y,hx,hy,fun hw=>?_⟩,fun y' hy'=>?_⟩
       ·simp only [hw] at h
        split at h
        ·rename_i hc
         unfold lateChk at hc
         simp only [hx,List.all_eq_true] at hc
         have hm:=hmem j oj hj hjk hun
         have hc:=hc j hm.1
         simp only [hj,hy,Bool.or_eq_true] at hc
         rcases hc.symm with hc | hc
         ·exfalso
          have hc:=hm.2 hc
          have hlt:Nat.blt j ops.size=true:=by simpa using (Array.getElem?_eq_some_iff.1 hj).1
          rw [hAm j,hlt,Bool.true_and] at hAj
          rw [hAj] at hc; cases hc
         ·exact hc
        ·exact h.elim
       ·simp only [Option.some.injEq] at hy'
        subst hy'
        exact settled_spec g2
   ·unfold aSt
    split at h
    ·rename_i hw
     try simp only [hw]
     split at h
     ·exact aop_mono (fun v m' hh=>aAny_lexS hG hK l _ _ _ hB' hh) h
     ·exact h.elim
    ·rename_i hw; (try simp only [hw]); exact aAny_lexS hG hK l _ _ _ hB' h
    ·exact h.elim

theorem aopsS_mono {K K':Env→HM→Prop} (hk:∀ e m,K e m→K' e m):∀ {l:List Nat} {e:Env} {m:HM},aopsS G ops l e m K→aopsS G ops l e m K'
 | [],_,_,h=>hk _ _ h
 | i::l,e,m,h=>by
  simp only [aopsS] at h ⊢
  split at h
  ·exact h
  ·split at h
   ·split at h
    ·exact aop_mono (fun v m' hh=>aopsS_mono hk hh) h
    ·exact h
   ·exact aopsS_mono hk h
   ·exact h

theorem pickL_range (l:List Oper):∀ (k n:Nat),k+n=l.length→pickL l (List.range' k n)=l.drop k
 | k,0,h=>by simp [pickL,List.drop_eq_nil_of_le (show l.length≤k by omega)]
 | k,n+1,h=>by
  have hk:k<l.length:=by omega
  rw [List.range'_succ,pickL,List.getElem?_eq_getElem hk]
  simp only
  rw [pickL_range l (k+1) n (by omega)]
  exact (List.drop_eq_getElem_cons hk).symm

end
end Go.Hv

namespace Go.Hv
open Go.Ev

section
variable {G:Cfg} {N:Nat}

theorem St.step {c c':Con} {m m':HM} {e:Env} {a:Act} {w w':World} (h:St G N c m e a w) {o:Oper} (ho:dstOk N o=true) {v:TV} (hr:Rel G.A c' m' w') (hs:Since c m w c' m' w')
  (hv:v.closed m'.bs.length=true):St G N c' m' (putE o.dst v e) (a.put o.dst (v.conc c')) w':=by
 refine ⟨hr,?_,by rw [put_size]; exact h.size⟩
 refine (h.fits.agree hs.agree' hs.le).put (fun t ht=>?_) hv
 simp only [dstOk,ht,blt_lt] at ho
 exact Nat.lt_of_lt_of_le ho h.size

theorem aops_sound (hG:CfgOk G) {all:Array Oper} {K:Env→HM→Prop} {Q:Exit→Act→World→Prop}:∀ (l:List Oper) (e:Env) (m:HM) (c:Con) (a:Act) (w:World),
  l.all (dstOk N)=true→aopsL G all.toList l e m K→St G N c m e a w →
  (∀ e' m' c' a' w',K e' m'→St G N c' m' e' a' w'→Since c m w c' m' w'→Q .normal a' w')→wpList G.P all Q l a w
 | [],e,m,c,a,w,_,h,hst,hQ=>hQ e m c a w h hst (Since.refl c m w)
 | o::l,e,m,c,a,w,hl,h,hst,hQ=>by
  simp only [List.all_cons,Bool.and_eq_true] at hl
  simp only [aopsL] at h
  unfold wpList
  split at h
  ·rename_i hw
   rw [if_pos (wantedA_sound hst.fits hw)]
   refine .inl (aop_sound hG hst.rel hst.fits h _ _ fun v m' c' w' hr hs hv hK=>?_)
   exact aops_sound hG l _ _ c' _ _ hl.2 hK (hst.step hl.1 hr hs hv) fun e' m'' c'' a' w'' hk hst' hs'=>hQ e' m'' c'' a' w'' hk hst' (hs.trans hs')
  ·rename_i hw
   rw [if_neg (by rw [wantedA_sound hst.fits hw]; simp)]
   exact aops_sound hG l _ _ c _ _ hl.2 h (hst.step (v:=.tup []) hl.1 hst.rel (Since.refl c m w) rfl) hQ
  ·exact h.elim

theorem aAny_sound (hG:CfgOk G) {ops:Array Oper} {K:Env→HM→Prop} {Q:Exit→Act→World→Prop} (hops:∀ (i:Nat) (o:Oper),ops[i]?=some o→dstOk N o=true) :
  ∀ (f:Nat) (listed:Array Bool) (e:Env) (m:HM) (c:Con) (a:Act) (w:World),aAny G ops K f listed e m→St G N c m e a w →
  (∀ e' m' c' a' w',K e' m'→St G N c' m' e' a' w'→Since c m w c' m' w'→Q .normal a' w')→wpAny G.P .any ops Q f listed a w
 | 0,listed,e,m,c,a,w,h,hst,hQ=>⟨h.1,hQ e m c a w h.2 hst (Since.refl c m w)⟩
 | f+1,listed,e,m,c,a,w,h,hst,hQ=>by
  refine ⟨fun h0=>hQ e m c a w (h.1 h0) hst (Since.refl c m w),fun i hi=>?_⟩
  have hh:=h.2 i hi
  unfold aAt at hh
  unfold wpOp
  split at hh
  ·rename_i ho
   simp only [ho]
   exact aAny_sound hG hops f _ _ _ c _ _ hh hst hQ
  ·rename_i o ho
   simp only [ho]
   unfold aSt at hh
   split at hh
   ·rename_i hw
    rw [if_pos (wantedA_sound hst.fits hw)]
    refine .inl (aop_sound hG hst.rel hst.fits hh _ _ fun v m' c' w' hr hs hv hK=>?_)
    exact aAny_sound hG hops f _ _ _ c' _ _ hK (hst.step (hops i o ho) hr hs hv) fun e' m'' c'' a' w'' hk hst' hs'=>hQ e' m'' c'' a' w'' hk hst' (hs.trans hs')
   ·rename_i hw
    rw [if_neg (by rw [wantedA_sound hst.fits hw]; simp)]
    exact aAny_sound hG hops f _ _ _ c _ _ hh (hst.step (v:=.tup []) (hops i o ho) hst.rel (Since.refl c m w) rfl) hQ
   ·exact hh.elim

theorem St.less {c:Con} {m:HM} {e e':Env} {a:Act} {w:World} (h:St G N c m e a w) (hle:∀ t v,Ev.get e' t=some v→Ev.get e t=some v):St G N c m e' a w:=
 ⟨h.rel,⟨fun t v hv=>h.fits.get t v (hle t v hv),h.fits.defers⟩,h.size⟩

end
end Go.Hv
