import Derived.Calls
import Derived.Orders
import Derived.Still
import Derived.KernelRfl
namespace Go.Ev

/-- An address: of a block that the walked code made (by its number), or of memory that was there before. -/
inductive SP where
  | loc (b o : Nat)
  | ext (a : Addr)

/-- What one cell holds. 'buf b n': a slice of the first n elements of block b, of a capacity that is not known. -/
inductive Sc where
  | int (k : IntKind) (n : Int)
  | bool (b : Bool)
  | str (s : ByteArray)
  | ptr (p : Option SP)
  | slice (p : Option SP) (len cap : Nat)
  | buf (b len : Nat)
  | raw (v : Value)

inductive TC where
  | one (s : Sc)
  | agg (l : List Sc)

inductive TV where
  | one (s : Sc)
  | agg (l : List Sc)
  | tup (l : List TC)

def TC.tv : TC → TV
  | .one s => .one s
  | .agg l => .agg l

def TV.tc : TV → Option TC
  | .one s => some (.one s)
  | .agg l => some (.agg l)
  | .tup _ => none

abbrev Env := List (Nat × TV)

def get : Env → Nat → Option TV
  | [], _ => none
  | (t, v) :: r, s => match Nat.beq t s with
    | true => some v
    | false => get r s

structure Blk where
  cells : List Sc
  elem : TypeId
  es : Nat
  grows : Bool

abbrev Mem := List (Option Blk)

/-- The kinds of types, as far as the operations ask. -/
inductive TK where
  | struct (fs : List (Nat × Nat × Bool))
  | array (n esize : Nat) (eagg : Bool)
  | slice (elem esize ebytes : Nat) (eagg : Bool)
  | int (k : IntKind)
  | bool
  | string
  | other

structure TyI where
  agg : Bool
  size : Nat
  zero : List Sc
  eqok : Bool
  k : TK

abbrev Tys := List (Nat × TyI)

def lk : Tys → Nat → Option TyI
  | [], _ => none
  | (t, v) :: r, s => match Nat.beq t s with
    | true => some v
    | false => lk r s

def one1 : Value → Bool
  | .agg _ | .tuple _ => false
  | _ => true

def cst1 : Value → Sc
  | .int k n => .int k n
  | .bool b => .bool b
  | .string s => .str s
  | .pointer none => .ptr none
  | .slice none l c => .slice none l c
  | v => .raw v

def cstL : List Value → Option (List Sc)
  | [] => some []
  | v :: vs => match one1 v with
    | true => match cstL vs with
      | some l => some (cst1 v :: l)
      | none => none
    | false => none

def cst : Value → Option TV
  | .agg ⟨cs⟩ => match cstL cs with
    | some l => some (.agg l)
    | none => none
  | .tuple _ => none
  | v => some (.one (cst1 v))

def opv (e : Env) : Operand → Option TV
  | .tmp t => get e t
  | .const v => cst v
  | .global g => some (.one (.ptr (some (.ext ⟨g, 0, none⟩))))
  | .func f => some (.one (.raw (.func (.func f) #[] #[])))

def getOps (e : Env) : List Operand → Option (List TV)
  | [] => some []
  | x :: xs => match opv e x with
    | some v => match getOps e xs with
      | some vs => some (v :: vs)
      | none => none
    | none => none

def TV.cells : TV → Option (List Sc)
  | .one s => some [s]
  | .agg l => some l
  | .tup _ => none

/-- 'n' cells from 'o' on, or nothing. -/
def takeAt : List Sc → Nat → Nat → Option (List Sc)
  | _, 0, 0 => some []
  | [], _, _ => none
  | c :: cs, 0, n + 1 => match takeAt cs 0 n with
    | some r => some (c :: r)
    | none => none
  | _ :: cs, o + 1, n => takeAt cs o n

/-- the cells 'vs' laid from 'o' on, or nothing. -/
def putAt : List Sc → Nat → List Sc → Option (List Sc)
  | cs, 0, [] => some cs
  | [], _, _ => none
  | _ :: cs, 0, v :: vs => match putAt cs 0 vs with
    | some r => some (v :: r)
    | none => none
  | c :: cs, o + 1, vs => match putAt cs o vs with
    | some r => some (c :: r)
    | none => none

def nth : Mem → Nat → Option Blk
  | [], _ => none
  | b :: _, 0 => b
  | _ :: m, n + 1 => nth m n

def setB : Mem → Nat → Option Blk → Mem
  | [], _, _ => []
  | _ :: m, 0, x => x :: m
  | b :: m, n + 1, x => b :: setB m n x

/-- A new block behind all others: its number and the memory with it. -/
def snoc : Mem → Option Blk → Nat × Mem
  | [], x => (0, [x])
  | b :: m, x => match snoc m x with
    | (n, m') => (n + 1, b :: m')

def kEq : IntKind → IntKind → Bool
  | .i8, .i8 | .i16, .i16 | .i32, .i32 | .i64, .i64 | .u8, .u8 | .u16, .u16 | .u32, .u32 | .u64, .u64 => true
  | _, _ => false

/-- A number as its kind holds it: the unsigned kinds written out. -/
def wr (k : IntKind) (n : Int) : Sc :=
  match k with
  | .u64 => .int .u64 (n % 18446744073709551616)
  | .u32 => .int .u32 (n % 4294967296)
  | .u8 => .int .u8 (n % 256)
  | k => .int k (k.wrap n)

def bits (op : BinOp) (k : IntKind) (x y : Int) : Option Int :=
  match op with
  | .and => some (k.wrap (BitVec.ofInt k.bits x &&& BitVec.ofInt k.bits y).toNat)
  | .or => some (k.wrap (BitVec.ofInt k.bits x ||| BitVec.ofInt k.bits y).toNat)
  | .xor => some (k.wrap (BitVec.ofInt k.bits x ^^^ BitVec.ofInt k.bits y).toNat)
  | .andNot => some (k.wrap (BitVec.ofInt k.bits x &&& ~~~BitVec.ofInt k.bits y).toNat)
  | _ => none

def bopI (op : BinOp) (k : IntKind) (a : Int) (k' : IntKind) (b : Int) : Option Sc :=
  match op with
  | .shl => match decide (b < 0) with
    | true => none
    | false => some (wr k (a * 2 ^ (min b.toNat k.bits)))
  | .shr => match decide (b < 0) with
    | true => none
    | false => some (.int k (a.fdiv (2 ^ (min b.toNat k.bits))))
  | op => match kEq k k' with
    | false => none
    | true => match op with
      | .add => some (wr k (a + b))
      | .sub => some (wr k (a - b))
      | .mul => some (wr k (a * b))
      | .quo => match decide (b = 0) with
        | true => none
        | false => some (.int k (k.wrap (a.tdiv b)))
      | .rem => match decide (b = 0) with
        | true => none
        | false => some (.int k (a.tmod b))
      | .eql => some (.bool (a == b))
      | .neq => some (.bool (a != b))
      | .lss => some (.bool (decide (a < b)))
      | .leq => some (.bool (decide (a ≤ b)))
      | .gtr => some (.bool (decide (a > b)))
      | .geq => some (.bool (decide (a ≥ b)))
      | op => match bits op k a b with
        | some n => some (.int k n)
        | none => none

/-- Are two rows of numbers and bools the same? -/
def eqCells : List Sc → List Sc → List Sc → Option Bool
  | [], [], [] => some true
  | .int k _ :: zs, .int k' a :: xs, .int k'' b :: ys => match kEq k k', kEq k k'' with
    | true, true => match eqCells zs xs ys with
      | some r => some ((a == b) && r)
      | none => none
    | _, _ => none
  | .bool _ :: zs, .bool a :: xs, .bool b :: ys => match eqCells zs xs ys with
    | some r => some ((a == b) && r)
    | none => none
  | _, _, _ => none

def bop (T : Tys) (op : BinOp) (t : TypeId) (x y : TV) : Option TV :=
  match x, y with
  | .one (.int k a), .one (.int k' b) => match bopI op k a k' b with
    | some s => some (.one s)
    | none => none
  | .one (.bool a), .one (.bool b) => match lk T t, op with
    | some { k := .bool, .. }, .eql => some (.one (.bool (a == b)))
    | some { k := .bool, .. }, .neq => some (.one (.bool (!(a == b))))
    | _, _ => none
  | .agg xs, .agg ys => match lk T t, op with
    | some { eqok := true, zero := z, .. }, .eql => match eqCells z xs ys with
      | some b => some (.one (.bool b))
      | none => none
    | some { eqok := true, zero := z, .. }, .neq => match eqCells z xs ys with
      | some b => some (.one (.bool (!b)))
      | none => none
    | _, _ => none
  | _, _ => none

def uop (op : UnOp) (x : TV) : Option TV :=
  match op, x with
  | .not, .one (.bool b) => some (.one (.bool (!b)))
  | .neg, .one (.int k n) => some (.one (wr k (0 - n)))
  | .xor, .one (.int k n) => match bits .xor k (if k.signed then -1 else k.max) n with
    | some r => some (.one (.int k r))
    | none => none
  | _, _ => none

/-- A part of an aggregate. -/
def partV (agg : Bool) (size : Nat) (l : List Sc) (o : Nat) : Option TV :=
  match agg with
  | true => match takeAt l o size with
    | some r => some (.agg r)
    | none => none
  | false => match takeAt l o 1 with
    | some [c] => some (.one c)
    | _ => none

def SP.add : SP → Nat → SP
  | .loc b o, n => .loc b (o + n)
  | .ext a, n => .ext (a.add n)

def nthF : List (Nat × Nat × Bool) → Nat → Option (Nat × Nat × Bool)
  | [], _ => none
  | f :: _, 0 => some f
  | _ :: fs, n + 1 => nthF fs n

def fillS (fs : List (Nat × Nat × Bool)) : List Sc → List (Nat × TV) → Option (List Sc)
  | cs, [] => some cs
  | cs, (i, v) :: r => match nthF fs i, v.cells with
    | some (off, size, _), some vs => match Nat.beq size vs.length with
      | true => match putAt cs off vs with
        | some cs' => fillS fs cs' r
        | none => none
      | false => none
    | _, _ => none

def fillA (esize : Nat) : List Sc → List (Nat × TV) → Option (List Sc)
  | cs, [] => some cs
  | cs, (i, v) :: r => match v.cells with
    | some vs => match Nat.beq esize vs.length with
      | true => match putAt cs (i * esize) vs with
        | some cs' => fillA esize cs' r
        | none => none
      | false => none
    | none => none

def opvP (e : Env) : List (Nat × Operand) → Option (List (Nat × TV))
  | [] => some []
  | (i, x) :: xs => match opv e x with
    | some v => match opvP e xs with
      | some vs => some ((i, v) :: vs)
      | none => none
    | none => none

def nthC : List TC → Nat → Option TC
  | [], _ => none
  | c :: _, 0 => some c
  | _ :: cs, n + 1 => nthC cs n

/-- low, high of a slice expression over a known capacity (no third index). -/
def bound (e : Env) (x : Option Operand) (dflt : Nat) : Option Int :=
  match x with
  | none => some dflt
  | some x => match opv e x with
    | some (.one (.int _ n)) => some n
    | _ => none

/-- The value of an operation that asks nothing of memory. -/
def pval (T : Tys) (op : Op) (e : Env) : Option TV :=
  match op with
  | .move x | .assign x => opv e x
  | .pick c a b => match opv e c with
    | some (.one (.bool true)) => opv e a
    | some (.one (.bool false)) => opv e b
    | _ => none
  | .nilCheck x => match opv e x with
    | some (.one (.ptr (some p))) => some (.one (.ptr (some p)))
    | _ => none
  | .binOp op t x y _ => match opv e x, opv e y with
    | some a, some b => bop T op t a b
    | _, _ => none
  | .unOp op _ x => match opv e x with
    | some a => uop op a
    | none => none
  | .convert s d x => match lk T s, lk T d, opv e x with
    | some _, some { k := .int k, .. }, some (.one (.int _ n)) => some (.one (wr k n))
    | _, _, _ => none
  | .extract x i => match opv e x with
    | some (.tup l) => match nthC l i with
      | some c => some c.tv
      | none => none
    | _ => none
  | .fieldAddr s x f => match lk T s, opv e x with
    | some { k := .struct fs, .. }, some (.one (.ptr (some p))) => match nthF fs f with
      | some (off, _, _) => some (.one (.ptr (some (p.add off))))
      | none => none
    | _, _ => none
  | .field s x f => match lk T s, opv e x with
    | some { k := .struct fs, .. }, some (.agg l) => match nthF fs f with
      | some (off, size, agg) => partV agg size l off
      | none => none
    | _, _ => none
  | .indexAddr t x i => match lk T t, opv e x, opv e i with
    | some { k := .array n es _, .. }, some (.one (.ptr (some p))), some (.one (.int _ j)) =>
      match decide (0 ≤ j ∧ j < (n : Int)) with
      | true => some (.one (.ptr (some (p.add (j.toNat * es)))))
      | false => none
    | some { k := .slice _ es _ _, .. }, some (.one (.slice (some p) len _)), some (.one (.int _ j)) =>
      match decide (0 ≤ j ∧ j < (len : Int)) with
      | true => some (.one (.ptr (some (p.add (j.toNat * es)))))
      | false => none
    | some { k := .slice _ es _ _, .. }, some (.one (.buf b len)), some (.one (.int _ j)) =>
      match decide (0 ≤ j ∧ j < (len : Int)) with
      | true => some (.one (.ptr (some (.loc b (j.toNat * es)))))
      | false => none
    | _, _, _ => none
  | .index t x i => match lk T t, opv e x, opv e i with
    | some { k := .array n es ag, .. }, some (.agg l), some (.one (.int _ j)) =>
      match decide (0 ≤ j ∧ j < (n : Int)) with
      | true => partV ag es l (j.toNat * es)
      | false => none
    | _, _, _ => none
  | .build t ps => match lk T t, opvP e ps.toList with
    | some { k := .struct fs, zero := z, .. }, some vs => match fillS fs z vs with
      | some l => some (.agg l)
      | none => none
    | some { k := .array _ es _, zero := z, .. }, some vs => match fillA es z vs with
      | some l => some (.agg l)
      | none => none
    | _, _ => none
  | .sliceToArrayPointer t x => match lk T t, opv e x with
    | some { k := .array n _ _, .. }, some (.one (.slice p len _)) => match Nat.ble n len with
      | true => some (.one (.ptr p))
      | false => none
    | _, _ => none
  | .slice t x lo hi none => match lk T t, opv e x with
    | some { k := .array n es _, .. }, some (.one (.ptr (some p))) => match bound e lo 0, bound e hi n with
      | some l, some h => match decide (0 ≤ h ∧ h ≤ (n : Int) ∧ 0 ≤ l ∧ l ≤ h) with
        | true => match Nat.beq l.toNat n with
          | true => some (.one (.slice (some p) (h.toNat - l.toNat) (n - l.toNat)))
          | false => some (.one (.slice (some (p.add (l.toNat * es))) (h.toNat - l.toNat) (n - l.toNat)))
        | false => none
      | _, _ => none
    | some { k := .slice _ es _ _, .. }, some (.one (.slice (some p) len cap)) => match bound e lo 0, bound e hi len with
      | some l, some h => match decide (len ≤ cap ∧ 0 ≤ h ∧ h ≤ (cap : Int) ∧ 0 ≤ l ∧ l ≤ h) with
        | true => match Nat.beq l.toNat cap with
          | true => some (.one (.slice (some p) (h.toNat - l.toNat) (cap - l.toNat)))
          | false => some (.one (.slice (some (p.add (l.toNat * es))) (h.toNat - l.toNat) (cap - l.toNat)))
        | false => none
      | _, _ => none
    | _, _ => none
  | .call { callee := .builtin .len, args := xs, argTypes := ts } => match ts.toList with
    | t :: _ => match lk T t, getOps e xs.toList with
      | some { k := .slice _ _ _ _, .. }, some [.one (.slice _ len _)] => some (.one (.int .i64 len))
      | some { k := .slice _ _ _ _, .. }, some [.one (.buf _ len)] => some (.one (.int .i64 len))
      | _, _ => none
    | _ => none
  | _ => none

/-! ## What stands for what -/

structure Con where
  ι : Nat → Nat
  κ : Nat → Nat

def SP.conc (c : Con) : SP → Addr
  | .loc b o => ⟨c.ι b, o, none⟩
  | .ext a => a

def Sc.conc (c : Con) : Sc → Value
  | .int k n => .int k n
  | .bool b => .bool b
  | .str s => .string s
  | .ptr p => .pointer (p.map (SP.conc c))
  | .slice p l k => .slice (p.map (SP.conc c)) l k
  | .buf b l => .slice (some ⟨c.ι b, 0, none⟩) l (c.κ b)
  | .raw v => v

def TC.conc (c : Con) : TC → Value
  | .one s => s.conc c
  | .agg l => .agg (l.map (Sc.conc c)).toArray

def TV.conc (c : Con) : TV → Value
  | .one s => s.conc c
  | .agg l => .agg (l.map (Sc.conc c)).toArray
  | .tup l => .tuple (l.map (TC.conc c)).toArray

def SP.closed (n : Nat) : SP → Bool
  | .loc b _ => Nat.blt b n
  | .ext _ => true

def Sc.closed (n : Nat) : Sc → Bool
  | .ptr (some p) => p.closed n
  | .slice (some p) _ _ => p.closed n
  | .buf b _ => Nat.blt b n
  | .raw v => one1 v
  | _ => true

def closedL (n : Nat) : List Sc → Bool
  | [] => true
  | s :: l => match s.closed n with
    | true => closedL n l
    | false => false

def TC.closed (n : Nat) : TC → Bool
  | .one s => s.closed n
  | .agg l => closedL n l

def closedT (n : Nat) : List TC → Bool
  | [] => true
  | s :: l => match s.closed n with
    | true => closedT n l
    | false => false

def TV.closed (n : Nat) : TV → Bool
  | .one s => s.closed n
  | .agg l => closedL n l
  | .tup l => closedT n l

def closedTs (n : Nat) : List TV → Bool
  | [] => true
  | v :: l => match v.closed n with
    | true => closedTs n l
    | false => false

def closedMs (n : Nat) : Mem → Bool
  | [] => true
  | some x :: l => match closedL n x.cells with
    | true => closedMs n l
    | false => false
  | none :: l => closedMs n l

def Con0 : Con := ⟨fun _ => 0, fun _ => 0⟩

/-- What memory that was there before holds, read as a value of a type. -/
def ExtRead (W0 : World) (agg : Bool) (size : Nat) (a : Addr) (v : TV) : Prop :=
  match agg with
  | false => ∃ s : Sc, W0.cell? a = some (s.conc Con0) ∧ s.closed 0 = true ∧ v = .one s
  | true => ∃ l : List Sc, l.length = size ∧ (∀ i s, l[i]? = some s → W0.cell? (a.add i) = some (s.conc Con0)) ∧ closedL 0 l = true ∧ v = .agg l

structure RelM (W0 : World) (c : Con) (m : Mem) (w : World) : Prop where
  blk : ∀ b x, nth m b = some x → ∃ junk : List Value, w.heap[c.ι b]? = some (.cells (x.cells.map (Sc.conc c) ++ junk).toArray x.elem (0, 0)) ∧
    (x.grows = false → junk = []) ∧ (x.grows = true → x.cells.length + junk.length = c.κ b * x.es)
  cl : ∀ b x, nth m b = some x → closedL m.length x.cells = true
  inj : ∀ a b x y, nth m a = some x → nth m b = some y → c.ι a = c.ι b → a = b
  ge : ∀ b, b < m.length → W0.heap.size ≤ c.ι b
  lt : ∀ b, b < m.length → c.ι b < w.heap.size
  ext : ∀ r, r < W0.heap.size → w.heap[r]? = W0.heap[r]?
  size : W0.heap.size ≤ w.heap.size
  os : w.os = W0.os
  tape : w.tape = W0.tape
  output : w.output = W0.output

/-- What a stretch of the walk may have turned: blocks of the memory that it was told of, and new ones. -/
structure Since (c0 : Con) (m0 : Mem) (w0 : World) (c : Con) (m : Mem) (w : World) : Prop where
  le : m0.length ≤ m.length
  agree : ∀ b, b < m0.length → c.ι b = c0.ι b ∧ c.κ b = c0.κ b
  size : w0.heap.size ≤ w.heap.size
  keep : ∀ r, r < w0.heap.size → (∀ b x, nth m0 b = some x → c0.ι b ≠ r) → w.heap[r]? = w0.heap[r]?
  fresh : ∀ b x, nth m b = some x → m0.length ≤ b → w0.heap.size ≤ c.ι b ∨ ∃ d y, nth m0 d = some y ∧ c.ι b = c0.ι d
  live : ∀ b x, nth m b = some x → b < m0.length → ∃ y, nth m0 b = some y

/-- A call of this function enters its body. -/
def Enters (P : Program) (f : FuncId) : Prop := ∀ (A : Array Value) (w : World), (callFunc f A).run P w = .ok (.enter f A) w

/-- A call, by its outcome. -/
def CALL (P : Program) (W0 : World) (f : FuncId) (args : List TV) (m : Mem) (K : TV → Mem → Prop) : Prop :=
  Enters P f ∧ ∀ (c : Con) (w : World), RelM W0 c m w → (∀ v ∈ args, v.closed m.length = true) →
    Calls P f (args.map (TV.conc c)).toArray w fun e w' => ∃ v m' c', e = .returned (v.conc c') ∧ RelM W0 c' m' w' ∧ Since c m w c' m' w' ∧ v.closed m'.length = true ∧ K v m'

/-! ## The walk -/

inductive Prim where
  | add64 | sub64 | mul64

structure Cfg where
  P : Program
  W0 : World
  T : Tys
  prim : Nat → Option Prim
  reads : Nat → Bool

/-- Words' sums, differences, products: what they come to, by equations. -/
def primC (p : Prim) (args : List TV) (K : TV → Prop) : Prop :=
  match p, args with
  | .add64, [.one (.int .u64 x), .one (.int .u64 y), .one (.int .u64 c)] => (0 ≤ x ∧ 0 ≤ y ∧ 0 ≤ c ∧ c ≤ 1) ∧
      ∀ s t : Int, s + 18446744073709551616 * t = x + y + c → 0 ≤ s → s < 18446744073709551616 → 0 ≤ t → K (.tup [.one (.int .u64 s), .one (.int .u64 t)])
  | .sub64, [.one (.int .u64 x), .one (.int .u64 y), .one (.int .u64 c)] => (0 ≤ x ∧ x < 18446744073709551616 ∧ 0 ≤ y ∧ y < 18446744073709551616 ∧ 0 ≤ c ∧ c ≤ 1) ∧
      ∀ s t : Int, s - 18446744073709551616 * t = x - y - c → 0 ≤ s → s < 18446744073709551616 → 0 ≤ t → t ≤ 1 → K (.tup [.one (.int .u64 s), .one (.int .u64 t)])
  | .mul64, [.one (.int .u64 x), .one (.int .u64 y)] => (0 ≤ x ∧ x < 18446744073709551616 ∧ 0 ≤ y ∧ y < 18446744073709551616) ∧
      ∀ s t : Int, 18446744073709551616 * s + t = x * y → 0 ≤ s → s < 18446744073709551616 → 0 ≤ t → t < 18446744073709551616 → 18446744073709551616 * s + t ≤ 340282366920938463426481119284349108225 → K (.tup [.one (.int .u64 s), .one (.int .u64 t)])
  | _, _ => False

def acall (G : Cfg) (f : FuncId) (args : List TV) (m : Mem) (K : TV → Mem → Prop) : Prop :=
  match G.prim f with
  | some p => primC p args fun v => K v m
  | none => match G.reads f with
    | true => match closedTs m.length args && closedMs m.length m with
      | true => ∃ v, CALL G.P G.W0 f args m (fun v' m' => v' = v ∧ m' = m) ∧ v.closed m.length = true ∧ K v m
      | false => False
    | false => ∃ R, CALL G.P G.W0 f args m R ∧ (∃ v m', R v m') ∧ ∀ v m', R v m' → K v m'

def aload (G : Cfg) (t : TypeId) (x : TV) (m : Mem) (K : TV → Mem → Prop) : Prop :=
  match lk G.T t, x with
  | some i, .one (.ptr (some (.loc b o))) => match nth m b with
    | some k => match partV i.agg i.size k.cells o with
      | some v => K v m
      | none => False
    | none => False
  | some i, .one (.ptr (some (.ext a))) => ∃ v, ExtRead G.W0 i.agg i.size a v ∧ K v m
  | _, _ => False

def astore (G : Cfg) (t : TypeId) (x v : TV) (m : Mem) : Option Mem :=
  match lk G.T t, x, v.cells with
  | some i, .one (.ptr (some (.loc b o))), some vs => match nth m b with
    | some ⟨l, el, es, gr⟩ => match Nat.beq i.size vs.length with
      | true => match putAt l o vs with
        | some cs => some (setB m b (some ⟨cs, el, es, gr⟩))
        | none => none
      | false => none
    | none => none
  | _, _, _ => none

def acopy (G : Cfg) (ts : List TypeId) (args : List TV) (m : Mem) : Option (TV × Mem) :=
  match ts, args with
  | t :: _, [.one (.slice (some (.loc b o)) dl _), .one (.slice (some (.loc b' o')) sl _)] => match lk G.T t, nth m b, nth m b' with
    | some { k := .slice _ es _ _, .. }, some ⟨l, el, es', gr⟩, some y => match takeAt y.cells o' (Nat.min sl dl * es) with
      | some vs => match putAt l o vs with
        | some cs => some (.one (.int .i64 (Nat.min sl dl : Nat)), setB m b (some ⟨cs, el, es', gr⟩))
        | none => none
      | none => none
    | _, _, _ => none
  | _, _ => none

/-- What makes a row. -/
def newOp : Op → Option (TypeId × Nat × List (Nat × Operand))
  | .buildSlice t n ps => some (t, n, ps.toList)
  | _ => none

def repS : Nat → List Sc → List Sc
  | 0, _ => []
  | n + 1, z => z ++ repS n z

/-- A slice that is written out: a row of its own. -/
def abuild (G : Cfg) (t : TypeId) (n : Nat) (vs : List (Nat × TV)) (m : Mem) : Option (TV × Mem) :=
  match lk G.T t with
  | some { k := .slice el es _ _, .. } => match lk G.T el with
    | some i => match decide (n * es ≤ 16777216 ∧ i.zero.length = es) with
      | true => match fillA es (repS n i.zero) vs with
        | some cs => match snoc m (some ⟨cs, el, 0, false⟩) with
          | (b, m') => some (.one (.slice (some (.loc b 0)) n n), m')
        | none => none
      | false => none
    | none => none
  | _ => none

def optM (r : Option (TV × Mem)) (K : TV → Mem → Prop) : Prop :=
  match r with
  | some (v, m) => K v m
  | none => False

def aop (G : Cfg) (o : Oper) (e : Env) (m : Mem) (K : TV → Mem → Prop) : Prop :=
  match o.op with
  | .alloc t => match lk G.T t with
    | some i => match snoc m (some ⟨i.zero, t, 0, false⟩) with
      | (b, m') => K (.one (.ptr (some (.loc b 0)))) m'
    | none => False
  | .box t x => match opv e x with
    | some v => match v.cells with
      | some cs => match snoc m (some ⟨cs, t, 0, false⟩) with
        | (b, m') => K (.one (.ptr (some (.loc b 0)))) m'
      | none => False
    | none => False
  | .load t x => match opv e x with
    | some v => aload G t v m K
    | none => False
  | .store t x y => match opv e x, opv e y with
    | some v, some u => match astore G t v u m with
      | some m' => K (.tup []) m'
      | none => False
    | _, _ => False
  | .call { callee := .value (.func f), args := xs, argTypes := _ } => match getOps e xs.toList with
    | some vs => acall G f vs m K
    | none => False
  | .call { callee := .builtin .copy, args := xs, argTypes := ts } => match getOps e xs.toList with
    | some vs => optM (acopy G ts.toList vs m) K
    | none => False
  | op => match newOp op with
    | some (t, n, ps) => match opvP e ps with
      | some vs => optM (abuild G t n vs m) K
      | none => False
    | none => match pval G.T op e with
      | some v => K v m
      | none => False

def putE (d : Option Tmp) (v : TV) (e : Env) : Env :=
  match d with
  | some t => (t, v) :: e
  | none => e

def wantedA (ops : List Oper) (g : Option (Nat × Bool)) (e : Env) : Option Bool :=
  match g with
  | none => some true
  | some (j, want) => match ops[j]? with
    | some o => match o.dst with
      | some t => match get e t with
        | some (.one (.bool b)) => some (b == want)
        | _ => none
      | none => none
    | none => none

def aops (G : Cfg) (all : List Oper) : List Oper → Env → Mem → (Env → Mem → Prop) → Prop
  | [], e, m, K => K e m
  | o :: r, e, m, K => match wantedA all o.guard e with
    | some true => aop G o e m fun v m' => aops G all r (putE o.dst v e) m' K
    | some false => aops G all r (putE o.dst (.tup []) e) m K
    | none => False

/-- What is known of the slots 'd', and no more. -/
def restr (K : Env → Prop) (e : Env) : List Nat → Env → Prop
  | [], acc => K acc
  | t :: ts, acc => match get e t with
    | some v => restr K e ts ((t, v) :: acc)
    | none => restr K e ts acc

def dom : Env → List Nat → List Nat
  | [], acc => acc
  | (t, _) :: e, acc => match acc.contains t with
    | true => dom e acc
    | false => dom e (t :: acc)

def loopN (body : (Exit → Env → Mem → Prop) → Env → Mem → Prop) (d : List Nat) (Q : Exit → Env → Mem → Prop) : Nat → Env → Mem → Prop
  | 0, _, _ => False
  | k + 1, e, m => body (fun x e' m' => match x with
    | .normal => restr (fun e'' => loopN body d Q k e'' m') e' d []
    | x => Q x e' m') e m

/-- What is known of the slots holds of the frame. -/
structure Fits (c : Con) (n : Nat) (e : Env) (a : Act) : Prop where
  get : ∀ t v, get e t = some v → a.tmps.getD t undef = v.conc c ∧ v.closed n = true
  defers : a.defers = []

structure St (G : Cfg) (N : Nat) (c : Con) (m : Mem) (e : Env) (a : Act) (w : World) : Prop where
  rel : RelM G.W0 c m w
  fits : Fits c m.length e a
  size : N ≤ a.tmps.size

/-- What the walk's post says of the frame and the world. -/
def Post (G : Cfg) (N : Nat) (c : Con) (m : Mem) (w : World) (Q : Exit → Env → Mem → Prop) : Exit → Act → World → Prop :=
  fun x a' w' => ∃ e' m' c', Q x e' m' ∧ St G N c' m' e' a' w' ∧ Since c m w c' m' w'

/-! ### What is asked of a function's code once -/

/-- 0: only computes; 1: reads; 2: writes; 3: makes a new block. -/
def opKind (G : Cfg) : Op → Nat
  | .alloc _ => 3
  | .box .. | .store .. => 2
  | .load .. => 1
  | .call { callee := .value (.func f), args := _, argTypes := _ } => match G.prim f with
    | some _ => 1
    | none => match G.reads f with
      | true => 1
      | false => 2
  | .call { callee := .builtin .copy, args := _, argTypes := _ } => 2
  | op => match newOp op with
    | some _ => 2
    | none => 0

def compat (i j : Nat) : Bool :=
  match i, j with
  | 0, _ => true
  | _, 0 => true
  | 1, 1 => true
  | 1, 3 => true
  | _, _ => false

/-- What comes behind number i, by its edges: a mask. -/
def behind (i : Nat) : List Oper → Nat → Nat → Nat
  | [], _, A => A
  | o :: r, j, A => match o.after.any (fun e => Region.binds .any e && (Nat.beq e.on i || A.testBit e.on)) with
    | true => behind i r (j + 1) (A ||| (1 <<< j))
    | false => behind i r (j + 1) A

def freeA (G : Cfg) (ops : Array Oper) (listed : Array Bool) (i : Nat) (oi : Oper) (A : Nat) : Bool :=
  (List.range ops.size).all fun j => match A.testBit j with
    | true => (listed.getD j true == false) && match ops[j]? with
      | some oj => oj.after.any (fun e => Region.binds .any e && (Nat.beq e.on i || (Nat.blt e.on ops.size && A.testBit e.on)))
      | none => false
    | false => j == i || listed.getD j true || match ops[j]? with
      | some oj => oi.apart ops oj && compat (opKind G oi.op) (opKind G oj.op)
      | none => true

def freeK (G : Cfg) (ops : Array Oper) (listed : Array Bool) (i : Nat) : Bool :=
  match ops[i]? with
  | none => false
  | some oi => freeA G ops listed i oi (behind i ops.toList 0 0)

def lexK (G : Cfg) (ops : Array Oper) : Nat → Nat → Array Bool → Bool
  | 0, _, listed => (Region.ready .any ops listed).isEmpty
  | fuel + 1, k, listed => (Region.ready .any ops listed).contains k && freeK G ops listed k && lexK G ops fuel (k + 1) (listed.setIfInBounds k true)

def dstOk (N : Nat) (o : Oper) : Bool :=
  match o.dst with
  | some t => Nat.blt t N
  | none => true

/-- What the walk takes of the code, asked once a function. -/
def okCode (G : Cfg) (N : Nat) : Code → Bool
  | .region _ ops draw => match ops.toList.all (dstOk N) with
    | true => match draw with
      | true => lexK G ops ops.size 0 (Array.replicate ops.size false)
      | false => true
    | false => false
  | .seq a b | .cond _ a b => match okCode G N a with
    | true => okCode G N b
    | false => false
  | .block _ b | .loop b => okCode G N b
  | _ => true

/-- A piece of code, by what the model does with it. -/
def SEM (G : Cfg) (cd : Code) (Q : Exit → Env → Mem → Prop) (e : Env) (m : Mem) : Prop :=
  ∀ (N : Nat) (c : Con) (a : Act) (w : World), okCode G N cd = true → St G N c m e a w → cd.wp G.P (Post G N c m w Q) a w

def swp (G : Cfg) : Code → (Exit → Env → Mem → Prop) → Env → Mem → Prop
  | .skip, Q, e, m => Q .normal e m
  | .region _ ops _, Q, e, m => aops G ops.toList ops.toList e m (Q .normal)
  | .seq a b, Q, e, m => swp G a (fun x e' m' => match x with
    | .normal => swp G b Q e' m'
    | x => Q x e' m') e m
  | .cond c a b, Q, e, m => match opv e c with
    | some (.one (.bool t)) => match t with
      | true => swp G a Q e m
      | false => swp G b Q e m
    | _ => False
  | .block id b, Q, e, m => swp G b (fun x e' m' => match x with
    | .exit i => match Nat.beq i id with
      | true => Q .normal e' m'
      | false => Q (.exit i) e' m'
    | x => Q x e' m') e m
  | .loop b, Q, e, m => (∃ k, loopN (swp G b) (dom e []) Q k e m) ∨ SEM G (.loop b) Q e m
  | .exit id, Q, e, m => Q (.exit id) e m
  | .ret, Q, e, m => Q .ret e m
  | .label _, Q, e, m => Q .normal e m
  | _, _, _, _ => False

def ares (G : Cfg) : List ResultVar → Env → Mem → (List TC → Prop) → Prop
  | [], _, _, K => K []
  | .tmp t :: r, e, m, K => match get e t with
    | some v => match v.tc with
      | some c => ares G r e m fun l => K (c :: l)
      | none => False
    | none => False
  | .cell t ty :: r, e, m, K => match get e t with
    | some v => aload G ty v m fun u _ => match u.tc with
      | some c => ares G r e m fun l => K (c :: l)
      | none => False
    | none => False

def outV : List TC → TV
  | [c] => c.tv
  | l => .tup l

def post (G : Cfg) (rs : Array ResultVar) (K : TV → Mem → Prop) : Exit → Env → Mem → Prop
  | .normal, e, m | .ret, e, m => ares G rs.toList e m fun l => K (outV l) m
  | _, _, _ => False

def ienv : Nat → List TV → Env
  | _, [] => []
  | n, v :: vs => (n, v) :: ienv (n + 1) vs

end Go.Ev
