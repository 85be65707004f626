import Derived.Test.YtmappjgknpldpaaEv12
namespace Go.Hv
open Go.Ev

/-- What is known of memory that nobody writes any more: which block holds what. -/
abbrev Base := Nat → Obj → Prop

def B0 : Base := fun _ _ => False
def Base.or (A B : Base) : Base := fun r o => A r o ∨ B r o
def Base.le (A B : Base) : Prop := ∀ r o, A r o → B r o

structure HM where
  bs : Mem
  N : Base

def bcell (B : Base) (a : Addr) (v : Value) : Prop := ∃ cells el fz, B a.block (.cells cells el fz) ∧ a.spot = none ∧ cells[a.off]? = some v

def ERead (B : Base) (agg : Bool) (size : Nat) (a : Addr) (v : TV) : Prop :=
  match agg with
  | false => ∃ s : Sc, bcell B a (s.conc Con0) ∧ s.closed 0 = true ∧ v = .one s
  | true => ∃ l : List Sc, l.length = size ∧ (∀ i s, l[i]? = some s → bcell B (a.add i) (s.conc Con0)) ∧ closedL 0 l = true ∧ v = .agg l

def BaseIn (B : Base) (w : World) : Prop := ∀ r o, B r o → w.heap[r]? = some o

structure Rel (A : Base) (c : Con) (m : HM) (w : World) : Prop where
  blk : ∀ b x, nth m.bs b = some x → ∃ junk : List Value, w.heap[c.ι b]? = some (.cells (x.cells.map (Sc.conc c) ++ junk).toArray x.elem (0, 0)) ∧
    (x.grows = false → junk = []) ∧ (x.grows = true → x.cells.length + junk.length = x.es)
  cl : ∀ b x, nth m.bs b = some x → closedL m.bs.length x.cells = true
  inj : ∀ a b x y, nth m.bs a = some x → nth m.bs b = some y → c.ι a = c.ι b → a = b
  lt : ∀ b, b < m.bs.length → c.ι b < w.heap.size
  baseA : BaseIn A w
  baseN : BaseIn m.N w
  sepA : ∀ b x o, nth m.bs b = some x → ¬ A (c.ι b) o
  sepN : ∀ b x o, nth m.bs b = some x → ¬ m.N (c.ι b) o

/-- The world went on: nothing but memory changed. -/
structure Same (w w' : World) : Prop where
  size : w.heap.size ≤ w'.heap.size
  os : w'.os = w.os
  tape : w'.tape = w.tape
  output : w'.output = w.output

structure Since (c0 : Con) (m0 : HM) (w0 : World) (c : Con) (m : HM) (w : World) : Prop where
  le : m0.bs.length ≤ m.bs.length
  agree : ∀ b, b < m0.bs.length → c.ι b = c0.ι b ∧ c.κ b = c0.κ b
  same : Same w0 w
  keep : ∀ r, r < w0.heap.size → (∀ b x, nth m0.bs b = some x → c0.ι b ≠ r) → w.heap[r]? = w0.heap[r]?
  fresh : ∀ b x, nth m.bs b = some x → m0.bs.length ≤ b → w0.heap.size ≤ c.ι b ∨ ∃ d y, nth m0.bs d = some y ∧ c.ι b = c0.ι d
  live : ∀ b x, nth m.bs b = some x → b < m0.bs.length → ∃ y, nth m0.bs b = some y
  newN : ∀ r o, m.N r o → m0.N r o ∨ w0.heap.size ≤ r ∨ ∃ d y, nth m0.bs d = some y ∧ c0.ι d = r

/-- A call, by its outcome. -/
def CALL (P : Program) (A : Base) (f : FuncId) (args : List TV) (m : HM) (K : TV → HM → Prop) : Prop :=
  Enters P f ∧ ∀ (c : Con) (w : World), Rel A c m w → (∀ v ∈ args, v.closed m.bs.length = true) →
    Calls P f (args.map (TV.conc c)).toArray w fun e w' => ∃ v m' c', e = .returned (v.conc c') ∧ Rel A c' m' w' ∧ Since c m w c' m' w' ∧ v.closed m'.bs.length = true ∧ K v m'

/-- A call that leaves all memory as it was and makes new; its result stands in memory that nobody writes. -/
def HC (P : Program) (B : Base) (f : FuncId) (args : List TV) (K : TV → Base → Prop) : Prop :=
  Enters P f ∧ ∀ (w : World), BaseIn B w → Calls P f (args.map (TV.conc Con0)).toArray w fun e w' => ∃ v N, e = .returned (v.conc Con0) ∧ v.closed 0 = true ∧
    BaseIn N w' ∧ (∀ r o, N r o → w.heap.size ≤ r) ∧ Same w w' ∧ (∀ r, r < w.heap.size → w'.heap[r]? = w.heap[r]?) ∧ K v N

/-- The same, but its result is a slice of a new block that is the caller's. -/
def HCO (P : Program) (B : Base) (f : FuncId) (args : List TV) (K : Nat → Nat → Blk → Base → Prop) : Prop :=
  Enters P f ∧ ∀ (w : World), BaseIn B w → Calls P f (args.map (TV.conc Con0)).toArray w fun e w' => ∃ r n cap k N junk, e = .returned (.slice (some ⟨r, 0, none⟩) n cap) ∧
    w'.heap[r]? = some (.cells (k.cells.map (Sc.conc Con0) ++ junk).toArray k.elem (0, 0)) ∧ (k.grows = false → junk = []) ∧ (k.grows = true → k.cells.length + junk.length = k.es) ∧ closedL 0 k.cells = true ∧
    w.heap.size ≤ r ∧ (∀ o, ¬ N r o) ∧ BaseIn N w' ∧ (∀ r o, N r o → w.heap.size ≤ r) ∧ Same w w' ∧ (∀ r, r < w.heap.size → w'.heap[r]? = w.heap[r]?) ∧ K n cap k N

/-! ## The walk -/

structure Cfg where
  P : Program
  A : Base
  T : Tys
  prim : Nat → Option Prim
  /-- 0: of values; 1: reads memory, its result stands in memory that nobody writes; 2: likewise, its result is the caller's; 3: writes. -/
  kind : Nat → Nat
  /-- The order in which a region is walked, by its number; else the text's. -/
  ord : Nat → Option (List Nat)

def SP.ext (c : Con) : SP → SP
  | .loc b o => .ext ⟨c.ι b, o, none⟩
  | .ext a => .ext a

def Sc.ext (c : Con) : Sc → Sc
  | .ptr (some p) => .ptr (some (SP.ext c p))
  | .slice (some p) l k => .slice (some (SP.ext c p)) l k
  | .buf b l => .slice (some (.ext ⟨c.ι b, 0, none⟩)) l (c.κ b)
  | s => s

def extL (c : Con) : List Sc → List Sc
  | [] => []
  | s :: l => Sc.ext c s :: extL c l

def TC.ext (c : Con) : TC → TC
  | .one s => .one (Sc.ext c s)
  | .agg l => .agg (extL c l)

def extT (c : Con) : List TC → List TC
  | [] => []
  | s :: l => TC.ext c s :: extT c l

def TV.ext (c : Con) : TV → TV
  | .one s => .one (Sc.ext c s)
  | .agg l => .agg (extL c l)
  | .tup l => .tup (extT c l)

def extA (c : Con) : List TV → List TV
  | [] => []
  | v :: l => TV.ext c v :: extA c l

/-- The walk's own blocks, as others see them. -/
def Lent (c : Con) (B : Base) (bs : Mem) : Prop :=
  ∀ b x, nth bs b = some x → ∃ junk : List Value, B (c.ι b) (.cells ((extL c x.cells).map (Sc.conc Con0) ++ junk).toArray x.elem (0, 0))

def acall (G : Cfg) (f : FuncId) (args : List TV) (m : HM) (K : TV → HM → Prop) : Prop :=
  match G.prim f with
  | some p => primC p args fun v => K v m
  | none => match G.kind f with
    | 0 => ∃ v, Ev.Fn G.P f args v ∧ closedTs 0 args = true ∧ K v m
    | 1 => ∃ K0 : TV → Base → Prop, (∀ (c : Con) (B : Base), Base.le (G.A.or m.N) B → Lent c B m.bs → HC G.P B f (extA c args) K0) ∧ (∃ v N, v.closed 0 = true ∧ K0 v N) ∧
        ∀ v N', v.closed 0 = true → K0 v N' → ∀ N1, Base.le (m.N.or N') N1 → K v ⟨m.bs, N1⟩
    | 2 => ∃ K0 : Nat → Nat → Blk → Base → Prop, (∀ (c : Con) (B : Base), Base.le (G.A.or m.N) B → Lent c B m.bs → HCO G.P B f (extA c args) K0) ∧ (∃ n cap k N, closedL 0 k.cells = true ∧ K0 n cap k N) ∧
        ∀ n cap k N', closedL 0 k.cells = true → K0 n cap k N' → ∀ N1, Base.le (m.N.or N') N1 → match snoc m.bs (some k) with
          | (b, bs') => K (.one (.slice (some (.loc b 0)) n cap)) ⟨bs', N1⟩
    | _ => ∃ R, CALL G.P G.A f args m R ∧ (∃ v m', R v m') ∧ ∀ v m', R v m' → K v m'

def aload (G : Cfg) (t : TypeId) (x : TV) (m : HM) (K : TV → HM → Prop) : Prop :=
  match lk G.T t, x with
  | some i, .one (.ptr (some (.loc b o))) => match nth m.bs b with
    | some k => match partV i.agg i.size k.cells o with
      | some v => K v m
      | none => False
    | none => False
  | some i, .one (.ptr (some (.ext a))) => ∃ v, ERead (G.A.or m.N) i.agg i.size a v ∧ K v m
  | _, _ => False

def astore (G : Cfg) (t : TypeId) (x v : TV) (m : HM) : Option HM :=
  match lk G.T t, x, v.cells with
  | some i, .one (.ptr (some (.loc b o))), some vs => match nth m.bs b with
    | some ⟨l, el, es, gr⟩ => match Nat.beq i.size vs.length with
      | true => match putAt l o vs with
        | some cs => some ⟨setB m.bs b (some ⟨cs, el, es, gr⟩), m.N⟩
        | none => none
      | false => none
    | none => none
  | _, _, _ => none

/-- The first cells of a slice (or of a string). -/
def SliceHas (A : Base) (m : HM) (s : TV) (k : Nat) (cells : List Sc) : Prop :=
  match s with
  | .one (.slice none _ _) => cells = []
  | .one (.slice (some (.loc b o)) _ _) => match nth m.bs b with
    | some x => takeAt x.cells o k = some cells
    | none => False
  | .one (.slice (some (.ext a)) _ _) => cells.length = k ∧ closedL 0 cells = true ∧ ∀ i s, cells[i]? = some s → bcell (A.or m.N) (a.add i) (s.conc Con0)
  | _ => False

def lenS : TV → Option Nat
  | .one (.slice _ n _) => some n
  | _ => none

def acopy (G : Cfg) (ts : List TypeId) (args : List TV) (m : HM) (K : TV → HM → Prop) : Prop :=
  match ts, args with
  | t :: _, [.one (.slice (some (.loc b o)) dl _), y] => match lk G.T t, nth m.bs b, lenS y with
    | some { k := .slice _ es _ _, .. }, some ⟨l, el, es', gr⟩, some sl => ∃ vs, SliceHas G.A m y (Nat.min sl dl * es) vs ∧ match putAt l o vs with
      | some cs => K (.one (.int .i64 (Nat.min sl dl : Nat))) ⟨setB m.bs b (some ⟨cs, el, es', gr⟩), m.N⟩
      | none => False
    | _, _, _ => False
  | _, _ => False

/-- Not more than a machine bears. -/
def CapOk (need eb : Nat) : Prop := (2 * need + 256) * eb ≤ 281474976710656 ∧ 0 < eb

/-- Append: behind it the slice stands in a new entry (the old block, or a new one); the old entry is spent. -/
def aappend (G : Cfg) (ts : List TypeId) (args : List TV) (m : HM) (K : TV → HM → Prop) : Prop :=
  match ts, args with
  | t :: t2 :: _, [x, y] => match lk G.T t, lk G.T t2, lenS y with
    | some { k := .slice el es eb _, .. }, some { k := .slice _ _ _ _, .. }, some k => match lk G.T el with
      | some i => ∃ vs, SliceHas G.A m y (k * es) vs ∧ vs.length = k * es ∧ i.zero.length = es ∧ match x with
        | .one (.slice none 0 0) => CapOk k eb ∧ 0 < k ∧ ∀ cap, k ≤ cap → match snoc m.bs (some ⟨vs, el, cap * es, true⟩) with
          | (b', bs') => K (.one (.slice (some (.loc b' 0)) k cap)) ⟨bs', m.N⟩
        | .one (.slice (some (.loc b 0)) n cap0) => match nth m.bs b with
          | some x => x.cells.length = n * es ∧ n ≤ cap0 ∧ x.elem = el ∧ (if x.grows then x.es = cap0 * es else cap0 = n) ∧ CapOk (n + k) eb ∧
              ∀ cap, n + k ≤ cap → match snoc (setB m.bs b none) (some ⟨x.cells ++ vs, el, cap * es, true⟩) with
              | (b', bs') => K (.one (.slice (some (.loc b' 0)) (n + k) cap)) ⟨bs', m.N⟩
          | none => False
        | _ => False
      | none => False
    | _, _, _ => False
  | _, _ => False

def abuild (G : Cfg) (t : TypeId) (n : Nat) (vs : List (Nat × TV)) (m : HM) : Option (TV × HM) :=
  match lk G.T t with
  | some { k := .slice el es _ _, .. } => match lk G.T el with
    | some i => match decide (n * es ≤ 16777216 ∧ i.zero.length = es) with
      | true => match fillA es (repS n i.zero) vs with
        | some cs => match snoc m.bs (some ⟨cs, el, 0, false⟩) with
          | (b, m') => some (.one (.slice (some (.loc b 0)) n n), ⟨m', m.N⟩)
        | none => none
      | false => none
    | none => none
  | _ => none

def optM (r : Option (TV × HM)) (K : TV → HM → Prop) : Prop :=
  match r with
  | some (v, m) => K v m
  | none => False

def amake (G : Cfg) (t : TypeId) (x y : TV) (m : HM) (K : TV → HM → Prop) : Prop :=
  match lk G.T t, x, y with
  | some { k := .slice el es eb _, .. }, .one (.int .i64 l), .one (.int .i64 c) => match lk G.T el with
    | some i => (0 ≤ l ∧ l = c ∧ c < 9223372036854775808 ∧ (eb : Int) * c ≤ 281474976710656 ∧ i.zero.length = es) ∧ match snoc m.bs (some ⟨repS c.toNat i.zero, el, 0, false⟩) with
      | (b, m') => K (.one (.slice (some (.loc b 0)) c.toNat c.toNat)) ⟨m', m.N⟩
    | none => False
  | _, _, _ => False

def byteS (n : Int) : Sc := .int .u8 n
def bytesS : List Int → List Sc
  | [] => []
  | n :: l => byteS n :: bytesS l

/-- The text of some bytes. -/
def strOf (l : List Int) : ByteArray := ⟨(l.map fun n => UInt8.ofNat n.toNat).toArray⟩

/-- Bytes to a string; a string to bytes: what comes of it. -/
def aconv (G : Cfg) (s d : TypeId) (x : TV) (m : HM) (K : TV → HM → Prop) : Prop :=
  match lk G.T s, lk G.T d with
  | some { k := .slice el _ _ _, .. }, some { k := .string, .. } => match lk G.T el, lenS x with
    | some { k := .int .u8, .. }, some n => ∃ l : List Int, l.length = n ∧ SliceHas G.A m x n (bytesS l) ∧ (∀ z ∈ l, 0 ≤ z ∧ z < 256) ∧ K (.one (.str (strOf l))) m
    | _, _ => False
  | some { k := .string, .. }, some { k := .slice el _ _ _, .. } => match lk G.T el, x with
    | some { k := .int .u8, .. }, .one (.str t) => t.size < 9223372036854775808 ∧ ∀ (a : Addr) (cap : Nat) (N1 : Base), t.size ≤ cap → a.off = 0 → a.spot = none → Base.le m.N N1 → (∀ i b, t.data[i]? = some b → bcell N1 (a.add i) (.int .u8 b.toNat)) →
        K (.one (.slice (some (.ext a)) t.size cap)) ⟨m.bs, N1⟩
    | _, _ => False
  | _, _ => False

/-- Strings: the same, or not; a slice or a pointer against nil; the lesser one. -/
def pval2 (T : Tys) (op : Op) (e : Env) : Option TV :=
  match op with
  | .binOp op _ x y _ => match opv e x, opv e y, op with
    | some (.one (.str a)), some (.one (.str b)), .eql => some (.one (.bool (a.toList == b.toList)))
    | some (.one (.str a)), some (.one (.str b)), .neq => some (.one (.bool (!(a.toList == b.toList))))
    | _, _, _ => none
  | .call { callee := .builtin .min, args := xs, argTypes := _ } => match getOps e xs.toList with
    | some [.one (.int k a), .one (.int _ b)] => some (.one (.int k (if b < a then b else a)))
    | _ => none
  | .call { callee := .builtin .len, args := xs, argTypes := ts } => match ts.toList with
    | t :: _ => match lk T t, getOps e xs.toList with
      | some { k := .string, .. }, some [.one (.str s)] => some (.one (.int .i64 s.size))
      | _, _ => none
    | _ => none
  | .slice t x lo (some hi) (some mx) => match lk T t, opv e x with
    | some { k := .slice _ es _ _, .. }, some (.one (.slice (some p) len cap)) => match bound e lo 0, bound e (some hi) len, bound e (some mx) 0 with
      | some l, some h, some m => match decide (0 ≤ m ∧ m ≤ (cap : Int) ∧ 0 ≤ h ∧ h ≤ m ∧ 0 ≤ l ∧ l ≤ h) with
        | true => match Nat.beq l.toNat m.toNat with
          | true => some (.one (.slice (some p) (h.toNat - l.toNat) (m.toNat - l.toNat)))
          | false => some (.one (.slice (some (p.add (l.toNat * es))) (h.toNat - l.toNat) (m.toNat - l.toNat)))
        | false => none
      | _, _, _ => none
    | _, _ => none
  | .slice t x lo hi none => match lk T t, opv e x with
    | some { k := .slice _ _ _ _, .. }, some (.one (.slice none 0 0)) => match bound e lo 0, bound e hi 0 with
      | some l, some h => match decide (l = 0 ∧ h = 0) with
        | true => some (.one (.slice none 0 0))
        | false => none
      | _, _ => none
    | _, _ => none
  | _ => none

def pvalH (T : Tys) (op : Op) (e : Env) : Option TV :=
  match pval T op e with
  | some v => some v
  | none => pval2 T op e

def aop (G : Cfg) (o : Oper) (e : Env) (m : HM) (K : TV → HM → Prop) : Prop :=
  match o.op with
  | .alloc t => match lk G.T t with
    | some i => match snoc m.bs (some ⟨i.zero, t, 0, false⟩) with
      | (b, m') => K (.one (.ptr (some (.loc b 0)))) ⟨m', m.N⟩
    | none => False
  | .box t x => match opv e x with
    | some v => match v.cells with
      | some cs => match snoc m.bs (some ⟨cs, t, 0, false⟩) with
        | (b, m') => K (.one (.ptr (some (.loc b 0)))) ⟨m', m.N⟩
      | none => False
    | none => False
  | .load t x => match opv e x with
    | some v => aload G t v m K
    | none => False
  | .store t x y => match opv e x, opv e y with
    | some v, some u => match astore G t v u m with
      | some m' => K (.tup []) m'
      | none => False
    | _, _ => False
  | .call { callee := .value (.func f), args := xs, argTypes := _ } => match getOps e xs.toList with
    | some vs => acall G f vs m K
    | none => False
  | .call { callee := .builtin .copy, args := xs, argTypes := ts } => match getOps e xs.toList with
    | some vs => acopy G ts.toList vs m K
    | none => False
  | .call { callee := .builtin .append, args := xs, argTypes := ts } => match getOps e xs.toList with
    | some vs => aappend G ts.toList vs m K
    | none => False
  | .makeSlice t x y => match opv e x, opv e y with
    | some u, some v => amake G t u v m K
    | _, _ => False
  | op => match newOp op with
    | some (t, n, ps) => match opvP e ps with
      | some vs => optM (abuild G t n vs m) K
      | none => False
    | none => match pvalH G.T op e with
      | some v => K v m
      | none => match op with
        | .convert s d x => match opv e x with
          | some v => aconv G s d v m K
          | none => False
        | _ => False

def aopsL (G : Cfg) (all : List Oper) : List Oper → Env → HM → (Env → HM → Prop) → Prop
  | [], e, m, K => K e m
  | o :: r, e, m, K => match wantedA all o.guard e with
    | some true => aop G o e m fun v m' => aopsL G all r (putE o.dst v e) m' K
    | some false => aopsL G all r (putE o.dst (.tup []) e) m K
    | none => False

/-- The operations by numbers. -/
def pickL (ops : List Oper) : List Nat → List Oper
  | [] => []
  | i :: l => match ops[i]? with
    | some o => o :: pickL ops l
    | none => pickL ops l

def seqOf (G : Cfg) (id : Nat) (draw : Bool) (ops : List Oper) : List Oper :=
  match draw with
  | false => ops
  | true => match G.ord id with
    | none => ops
    | some l => pickL ops l

def loopN (body : (Exit → Env → HM → Prop) → Env → HM → Prop) (d : List Nat) (Q : Exit → Env → HM → Prop) : Nat → Env → HM → Prop
  | 0, _, _ => False
  | k + 1, e, m => body (fun x e' m' => match x with
    | .normal => restr (fun e'' => loopN body d Q k e'' m') e' d []
    | x => Q x e' m') e m

structure St (G : Cfg) (N : Nat) (c : Con) (m : HM) (e : Env) (a : Act) (w : World) : Prop where
  rel : Rel G.A c m w
  fits : Fits c m.bs.length e a
  size : N ≤ a.tmps.size

def Post (G : Cfg) (N : Nat) (c : Con) (m : HM) (w : World) (Q : Exit → Env → HM → Prop) : Exit → Act → World → Prop :=
  fun x a' w' => ∃ e' m' c', Q x e' m' ∧ St G N c' m' e' a' w' ∧ Since c m w c' m' w'

/-! ### What is asked of a function's code once -/

/-- 0: only computes; 1: reads; 3: makes a block; 4: makes memory that nobody writes; 5: a call that makes a block; 2: whatever else. -/
def opKind (G : Cfg) : Op → Nat
  | .alloc _ | .box .. => 3
  | .makeSlice .. => 2
  | .store .. => 2
  | .load .. => 1
  | .call { callee := .value (.func f), args := _, argTypes := _ } => match G.prim f with
    | some _ => 1
    | none => match G.kind f with
      | 0 => 1
      | 1 => 4
      | 2 => 5
      | _ => 2
  | .call { callee := .builtin .copy, args := _, argTypes := _ } => 2
  | .call { callee := .builtin .append, args := _, argTypes := _ } => 2
  | .convert s d _ => match lk G.T s, lk G.T d with
    | some { k := .slice _ _ _ _, .. }, some { k := .string, .. } => 1
    | some { k := .string, .. }, some { k := .slice _ _ _ _, .. } => 4
    | _, _ => 0
  | op => match newOp op with
    | some _ => 3
    | none => 0

def compat (i j : Nat) : Bool :=
  match i, j with
  | 0, _ => true
  | _, 0 => true
  | 1, 1 => true
  | 1, 3 => true
  | 1, 4 => true
  | 1, 5 => true
  | 4, 3 => true
  | _, _ => false

def freeA (G : Cfg) (ops : Array Oper) (listed : Array Bool) (i : Nat) (oi : Oper) (A : Nat) : Bool :=
  (List.range ops.size).all fun j => match A.testBit j with
    | true => (listed.getD j true == false) && match ops[j]? with
      | some oj => oj.after.any (fun e => Region.binds .any e && (Nat.beq e.on i || (Nat.blt e.on ops.size && A.testBit e.on)))
      | none => false
    | false => j == i || listed.getD j true || match ops[j]? with
      | some oj => oi.apart ops oj && compat (opKind G oi.op) (opKind G oj.op)
      | none => true

def freeK (G : Cfg) (ops : Array Oper) (listed : Array Bool) (i : Nat) : Bool :=
  match ops[i]? with
  | none => false
  | some oi => freeA G ops listed i oi (behind i ops.toList 0 0)

def lexK (G : Cfg) (ops : Array Oper) : List Nat → Array Bool → Bool
  | [], listed => (Region.ready .any ops listed).isEmpty
  | k :: l, listed => (Region.ready .any ops listed).contains k && freeK G ops listed k && lexK G ops l (listed.setIfInBounds k true)

def ordOf (G : Cfg) (id : Nat) (n : Nat) : List Nat :=
  match G.ord id with
  | none => List.range n
  | some l => l

def okCode (G : Cfg) (N : Nat) : Code → Bool
  | .region id ops draw => match ops.toList.all (dstOk N) with
    | true => match draw with
      | true => Nat.beq (ordOf G id ops.size).length ops.size && lexK G ops (ordOf G id ops.size) (Array.replicate ops.size false)
      | false => true
    | false => false
  | .seq a b | .cond _ a b => match okCode G N a with
    | true => okCode G N b
    | false => false
  | .block _ b | .loop b => okCode G N b
  | _ => true

def SEM (G : Cfg) (cd : Code) (Q : Exit → Env → HM → Prop) (e : Env) (m : HM) : Prop :=
  ∀ (N : Nat) (c : Con) (a : Act) (w : World), okCode G N cd = true → St G N c m e a w → cd.wp G.P (Post G N c m w Q) a w

def swp (G : Cfg) : Code → (Exit → Env → HM → Prop) → Env → HM → Prop
  | .skip, Q, e, m => Q .normal e m
  | .region id ops draw, Q, e, m => aopsL G ops.toList (seqOf G id draw ops.toList) e m (Q .normal)
  | .seq a b, Q, e, m => swp G a (fun x e' m' => match x with
    | .normal => swp G b Q e' m'
    | x => Q x e' m') e m
  | .cond c a b, Q, e, m => match opv e c with
    | some (.one (.bool t)) => match t with
      | true => swp G a Q e m
      | false => swp G b Q e m
    | _ => False
  | .block id b, Q, e, m => swp G b (fun x e' m' => match x with
    | .exit i => match Nat.beq i id with
      | true => Q .normal e' m'
      | false => Q (.exit i) e' m'
    | x => Q x e' m') e m
  | .loop b, Q, e, m => (∃ k, loopN (swp G b) (dom e []) Q k e m) ∨ SEM G (.loop b) Q e m
  | .exit id, Q, e, m => Q (.exit id) e m
  | .ret, Q, e, m => Q .ret e m
  | .label _, Q, e, m => Q .normal e m
  | _, _, _, _ => False

def ares (G : Cfg) : List ResultVar → Env → HM → (List TC → Prop) → Prop
  | [], _, _, K => K []
  | .tmp t :: r, e, m, K => match get e t with
    | some v => match v.tc with
      | some c => ares G r e m fun l => K (c :: l)
      | none => False
    | none => False
  | .cell t ty :: r, e, m, K => match get e t with
    | some v => aload G ty v m fun u _ => match u.tc with
      | some c => ares G r e m fun l => K (c :: l)
      | none => False
    | none => False

def post (G : Cfg) (rs : Array ResultVar) (K : TV → HM → Prop) : Exit → Env → HM → Prop
  | .normal, e, m | .ret, e, m => ares G rs.toList e m fun l => K (outV l) m
  | _, _, _ => False

end Go.Hv
