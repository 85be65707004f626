import Derived.Test.YtmappjgknpldpaaHv12
namespace Go.Hv
open Go.Ev

/-! ## The walk once more, each test outermost: what is not decided by itself stands in sight -/

def wantC (ops : List Oper) (g : Option (Nat × Bool)) (e : Env) (Kt Kf : Prop) : Prop :=
  match g with
  | none => Kt
  | some (j, want) => match ops[j]? with
    | some o => match o.dst with
      | some t => match get e t with
        | some (.one (.bool b)) => match want with
          | true => match b with
            | true => Kt
            | false => Kf
          | false => match b with
            | true => Kf
            | false => Kt
        | _ => False
      | none => False
    | none => False

theorem wantC_imp {ops : List Oper} {g : Option (Nat × Bool)} {e : Env} {Kt Kf : Prop} (h : wantC ops g e Kt Kf) : (wantedA ops g e = some true ∧ Kt) ∨ (wantedA ops g e = some false ∧ Kf) := by
  unfold wantC at h
  unfold wantedA
  cases g with
  | none => exact .inl ⟨rfl, h⟩
  | some gw =>
    obtain ⟨j, want⟩ := gw
    simp only at h ⊢
    cases ho : ops[j]? with
    | none => simp only [ho] at h
    | some o =>
      simp only [ho] at h ⊢
      cases ht : o.dst with
      | none => simp only [ht] at h
      | some t =>
        simp only [ht] at h ⊢
        split at h
        · rename_i b hb
          simp only [hb]
          cases want <;> cases b <;> simp_all
        · exact h.elim

def shiftC (op : BinOp) (k : IntKind) (a b : Int) (K : TV → Prop) : Prop :=
  match decide (b < 0) with
  | true => False
  | false => match op with
    | .shl => K (.one (wr k (a * 2 ^ (min b.toNat k.bits))))
    | _ => K (.one (.int k (a.fdiv (2 ^ (min b.toNat k.bits)))))

def divC (op : BinOp) (k : IntKind) (a b : Int) (K : TV → Prop) : Prop :=
  match decide (b = 0) with
  | true => False
  | false => match op with
    | .quo => K (.one (.int k (k.wrap (a.tdiv b))))
    | _ => K (.one (.int k (a.tmod b)))

def partC (agg : Bool) (size : Nat) (l : List Sc) (o : Nat) (K : TV → Prop) : Prop :=
  match agg with
  | true => match takeAt l o size with
    | some r => K (.agg r)
    | none => False
  | false => match takeAt l o 1 with
    | some [c] => K (.one c)
    | _ => False

theorem partC_imp {agg : Bool} {size : Nat} {l : List Sc} {o : Nat} {K : TV → Prop} (h : partC agg size l o K) : ∃ v, partV agg size l o = some v ∧ K v := by
  unfold partC at h
  unfold partV
  split at h
  · split at h
    · rename_i r hr; exact ⟨_, by simp only [hr], h⟩
    · exact h.elim
  · split at h
    · rename_i r hr; exact ⟨_, by simp only [hr], h⟩
    · exact h.elim

def pvalC (T : Tys) (op : Op) (e : Env) (K : TV → Prop) : Prop :=
  match op with
  | .pick c a b => match opv e c with
    | some (.one (.bool t)) => match t with
      | true => match opv e a with
        | some v => K v
        | none => False
      | false => match opv e b with
        | some v => K v
        | none => False
    | _ => False
  | .binOp .shl _ x y _ => match opv e x, opv e y with
    | some (.one (.int k a)), some (.one (.int _ b)) => shiftC .shl k a b K
    | _, _ => False
  | .binOp .shr _ x y _ => match opv e x, opv e y with
    | some (.one (.int k a)), some (.one (.int _ b)) => shiftC .shr k a b K
    | _, _ => False
  | .binOp .quo _ x y _ => match opv e x, opv e y with
    | some (.one (.int k a)), some (.one (.int k' b)) => match kEq k k' with
      | true => divC .quo k a b K
      | false => False
    | _, _ => False
  | .binOp .rem _ x y _ => match opv e x, opv e y with
    | some (.one (.int k a)), some (.one (.int k' b)) => match kEq k k' with
      | true => divC .rem k a b K
      | false => False
    | _, _ => False
  | .indexAddr t x i => match lk T t, opv e x, opv e i with
    | some { k := .array n es _, .. }, some (.one (.ptr (some p))), some (.one (.int _ j)) =>
      match decide (0 ≤ j ∧ j < (n : Int)) with
      | true => K (.one (.ptr (some (p.add (j.toNat * es)))))
      | false => False
    | some { k := .slice _ es _ _, .. }, some (.one (.slice (some p) len _)), some (.one (.int _ j)) =>
      match decide (0 ≤ j ∧ j < (len : Int)) with
      | true => K (.one (.ptr (some (p.add (j.toNat * es)))))
      | false => False
    | _, _, _ => False
  | .index t x i => match lk T t, opv e x, opv e i with
    | some { k := .array n es ag, .. }, some (.agg l), some (.one (.int _ j)) =>
      match decide (0 ≤ j ∧ j < (n : Int)) with
      | true => partC ag es l (j.toNat * es) K
      | false => False
    | _, _, _ => False
  | .slice t x lo hi none => match lk T t, opv e x with
    | some { k := .array n es _, .. }, some (.one (.ptr (some p))) => match bound e lo 0, bound e hi n with
      | some l, some h => match decide (0 ≤ h ∧ h ≤ (n : Int) ∧ 0 ≤ l ∧ l ≤ h) with
        | true => match Nat.beq l.toNat n with
          | true => K (.one (.slice (some p) (h.toNat - l.toNat) (n - l.toNat)))
          | false => K (.one (.slice (some (p.add (l.toNat * es))) (h.toNat - l.toNat) (n - l.toNat)))
        | false => False
      | _, _ => False
    | some { k := .slice _ es _ _, .. }, some (.one (.slice (some p) len cap)) => match bound e lo 0, bound e hi len with
      | some l, some h => match decide (len ≤ cap ∧ 0 ≤ h ∧ h ≤ (cap : Int) ∧ 0 ≤ l ∧ l ≤ h) with
        | true => match Nat.beq l.toNat cap with
          | true => K (.one (.slice (some p) (h.toNat - l.toNat) (cap - l.toNat)))
          | false => K (.one (.slice (some (p.add (l.toNat * es))) (h.toNat - l.toNat) (cap - l.toNat)))
        | false => False
      | _, _ => False
    | some { k := .slice _ _ _ _, .. }, some (.one (.slice none 0 0)) => match bound e lo 0, bound e hi 0 with
      | some l, some h => match decide (l = 0 ∧ h = 0) with
        | true => K (.one (.slice none 0 0))
        | false => False
      | _, _ => False
    | _, _ => False
  | .sliceToArrayPointer t x => match lk T t, opv e x with
    | some { k := .array n _ _, .. }, some (.one (.slice p len _)) => match Nat.ble n len with
      | true => K (.one (.ptr p))
      | false => False
    | _, _ => False
  | op => match pvalH T op e with
    | some v => K v
    | none => False

theorem pvalC_imp {T : Tys} {op : Op} {e : Env} {K : TV → Prop} (h : pvalC T op e K) : ∃ v, pvalH T op e = some v ∧ K v := by
  have ofp : ∀ {v : TV}, pval T op e = some v → pvalH T op e = some v := fun hv => by unfold pvalH; rw [hv]
  unfold pvalC at h
  split at h
  · split at h
    · rename_i c a b t hc
      split at h
      · split at h
        · rename_i v hv; exact ⟨v, ofp (by simp only [pval, hc, hv]), h⟩
        · exact h.elim
      · split at h
        · rename_i v hv; exact ⟨v, ofp (by simp only [pval, hc, hv]), h⟩
        · exact h.elim
    · exact h.elim
  · split at h
    · rename_i k a k' b hx hy
      unfold shiftC at h
      split at h
      · exact h.elim
      · rename_i hb
        exact ⟨_, ofp (by simp only [pval, hx, hy, bop, bopI, hb]), h⟩
    · exact h.elim
  · split at h
    · rename_i k a k' b hx hy
      unfold shiftC at h
      split at h
      · exact h.elim
      · rename_i hb
        exact ⟨_, ofp (by simp only [pval, hx, hy, bop, bopI, hb]), h⟩
    · exact h.elim
  · split at h
    · rename_i k a k' b hx hy
      split at h
      · rename_i hk
        unfold divC at h
        split at h
        · exact h.elim
        · rename_i hb
          exact ⟨_, ofp (by simp only [pval, hx, hy, bop, bopI, hk, hb]), h⟩
      · exact h.elim
    · exact h.elim
  · split at h
    · rename_i k a k' b hx hy
      split at h
      · rename_i hk
        unfold divC at h
        split at h
        · exact h.elim
        · rename_i hb
          exact ⟨_, ofp (by simp only [pval, hx, hy, bop, bopI, hk, hb]), h⟩
      · exact h.elim
    · exact h.elim
  · split at h
    · rename_i ht hx hi
      split at h
      · rename_i hb; exact ⟨_, ofp (by simp only [pval, ht, hx, hi, hb]), h⟩
      · exact h.elim
    · rename_i ht hx hi
      split at h
      · rename_i hb; exact ⟨_, ofp (by simp only [pval, ht, hx, hi, hb]), h⟩
      · exact h.elim
    · exact h.elim
  · split at h
    · rename_i ht hx hi
      split at h
      · rename_i hb
        obtain ⟨v, hv, hK⟩ := partC_imp h
        exact ⟨v, ofp (by simp only [pval, ht, hx, hi, hb, hv]), hK⟩
      · exact h.elim
    · exact h.elim
  · split at h
    · rename_i ht hx
      split at h
      · rename_i hl hh
        split at h
        · rename_i hb
          split at h
          · rename_i hq; exact ⟨_, ofp (by simp only [pval, ht, hx, hl, hh, hb, hq]), h⟩
          · rename_i hq; exact ⟨_, ofp (by simp only [pval, ht, hx, hl, hh, hb, hq]), h⟩
        · exact h.elim
      · exact h.elim
    · rename_i ht hx
      split at h
      · rename_i hl hh
        split at h
        · rename_i hb
          split at h
          · rename_i hq; exact ⟨_, ofp (by simp only [pval, ht, hx, hl, hh, hb, hq]), h⟩
          · rename_i hq; exact ⟨_, ofp (by simp only [pval, ht, hx, hl, hh, hb, hq]), h⟩
        · exact h.elim
      · exact h.elim
    · rename_i ht hx
      split at h
      · rename_i hl hh
        split at h
        · rename_i hb
          exact ⟨_, by simp only [pvalH, pval, pval2, ht, hx, hl, hh, hb], h⟩
        · exact h.elim
      · exact h.elim
    · exact h.elim
  · split at h
    · rename_i ht hx
      split at h
      · rename_i hb; exact ⟨_, ofp (by simp only [pval, ht, hx, hb]), h⟩
      · exact h.elim
    · exact h.elim
  · split at h
    · rename_i v hv; exact ⟨v, hv, h⟩
    · exact h.elim

def aloadC (G : Cfg) (t : TypeId) (x : TV) (m : HM) (K : TV → HM → Prop) : Prop :=
  match lk G.T t, x with
  | some i, .one (.ptr (some (.loc b o))) => match nth m.bs b with
    | some k => partC i.agg i.size k.cells o fun v => K v m
    | none => False
  | some i, .one (.ptr (some (.ext a))) => ∃ v, ERead (G.A.or m.N) i.agg i.size a v ∧ K v m
  | _, _ => False

theorem aloadC_imp {G : Cfg} {t : TypeId} {x : TV} {m : HM} {K : TV → HM → Prop} (h : aloadC G t x m K) : aload G t x m K := by
  unfold aloadC at h
  unfold aload
  split at h
  · rename_i ht
    split at h
    · rename_i hn
      obtain ⟨v, hv, hK⟩ := partC_imp h
      simp only [ht, hn, hv]; exact hK
    · exact h.elim
  · rename_i ht
    simp only [ht]; exact h
  · exact h.elim

def astoreC (G : Cfg) (t : TypeId) (x v : TV) (m : HM) (K : TV → HM → Prop) : Prop :=
  match lk G.T t, x, v.cells with
  | some i, .one (.ptr (some (.loc b o))), some vs => match nth m.bs b with
    | some ⟨l, el, es, gr⟩ => match Nat.beq i.size vs.length with
      | true => match putAt l o vs with
        | some cs => K (.tup []) ⟨setB m.bs b (some ⟨cs, el, es, gr⟩), m.N⟩
        | none => False
      | false => False
    | none => False
  | _, _, _ => False

theorem astoreC_imp {G : Cfg} {t : TypeId} {x v : TV} {m : HM} {K : TV → HM → Prop} (h : astoreC G t x v m K) : ∃ m', astore G t x v m = some m' ∧ K (.tup []) m' := by
  unfold astoreC at h
  unfold astore
  split at h
  · rename_i ht hv
    split at h
    · rename_i hn
      split at h
      · rename_i hb
        split at h
        · rename_i hp
          exact ⟨_, by simp only [ht, hv, hn, hb, hp], h⟩
        · exact h.elim
      · exact h.elim
    · exact h.elim
  · exact h.elim

def aopC (G : Cfg) (o : Oper) (e : Env) (m : HM) (K : TV → HM → Prop) : Prop :=
  match o.op with
  | .alloc t => match lk G.T t with
    | some i => match snoc m.bs (some ⟨i.zero, t, 0, false⟩) with
      | (b, m') => K (.one (.ptr (some (.loc b 0)))) ⟨m', m.N⟩
    | none => False
  | .box t x => match opv e x with
    | some v => match v.cells with
      | some cs => match snoc m.bs (some ⟨cs, t, 0, false⟩) with
        | (b, m') => K (.one (.ptr (some (.loc b 0)))) ⟨m', m.N⟩
      | none => False
    | none => False
  | .load t x => match opv e x with
    | some v => aloadC G t v m K
    | none => False
  | .store t x y => match opv e x, opv e y with
    | some v, some u => astoreC G t v u m K
    | _, _ => False
  | .call { callee := .value (.func f), args := xs, argTypes := _ } => match getOps e xs.toList with
    | some vs => acall G f vs m K
    | none => False
  | .call { callee := .builtin .copy, args := xs, argTypes := ts } => match getOps e xs.toList with
    | some vs => acopy G ts.toList vs m K
    | none => False
  | .call { callee := .builtin .append, args := xs, argTypes := ts } => match getOps e xs.toList with
    | some vs => aappend G ts.toList vs m K
    | none => False
  | .makeSlice t x y => match opv e x, opv e y with
    | some u, some v => amake G t u v m K
    | _, _ => False
  | .convert s d x => match lk G.T d with
    | some { k := .int _, .. } => match pval G.T (.convert s d x) e with
      | some v => K v m
      | none => False
    | some _ => match opv e x with
      | some v => aconv G s d v m K
      | none => False
    | none => False
  | op => match newOp op with
    | some (t, n, ps) => match opvP e ps with
      | some vs => optM (abuild G t n vs m) K
      | none => False
    | none => pvalC G.T op e fun v => K v m

theorem aopC_imp {G : Cfg} {o : Oper} {e : Env} {m : HM} {K : TV → HM → Prop} (h : aopC G o e m K) : aop G o e m K := by
  unfold aopC at h
  unfold aop
  split at h
  · rename_i ho; simp only [ho]; exact h
  · rename_i ho; simp only [ho]; exact h
  · rename_i t x ho
    simp only [ho]
    split at h
    · rename_i hv; simp only [hv]; exact aloadC_imp h
    · exact h.elim
  · rename_i t x y ho
    simp only [ho]
    split at h
    · rename_i v u hv hu
      simp only [hv, hu]
      obtain ⟨m', h1, h2⟩ := astoreC_imp h
      simp only [h1]; exact h2
    · exact h.elim
  · rename_i ho; simp only [ho]; exact h
  · rename_i ho; simp only [ho]; exact h
  · rename_i ho; simp only [ho]; exact h
  · rename_i ho; simp only [ho]; exact h
  · rename_i s d x ho
    simp only [ho, newOp]
    split at h
    · split at h
      · rename_i v hv
        simp only [pvalH, hv]; exact h
      · exact h.elim
    · rename_i i hno hi
      split at h
      · rename_i v hv
        have hn : pvalH G.T (.convert s d x) e = none := conv_pvalH fun j hj k hk => by
          rw [hi] at hj
          simp only [Option.some.injEq] at hj
          subst hj
          obtain ⟨_, _, _, _, kk⟩ := i
          simp only at hk
          subst hk
          exact hno _ _ _ _ _ rfl
        simp only [hn, hv]; exact h
      · exact h.elim
    · exact h.elim
  · rename_i h1 h2 h3 h4 h5 h6 h7 h8 h9
    split
    · rename_i ho; exact absurd ho (h1 _)
    · rename_i ho; exact absurd ho (h2 _ _)
    · rename_i ho; exact absurd ho (h3 _ _)
    · rename_i ho; exact absurd ho (h4 _ _ _)
    · rename_i ho; exact absurd ho (h5 _ _ _)
    · rename_i ho; exact absurd ho (h6 _ _)
    · rename_i ho; exact absurd ho (h7 _ _)
    · rename_i ho; exact absurd ho (h8 _ _ _)
    · split at h
      · rename_i hn; simp only [hn]; exact h
      · rename_i hn
        obtain ⟨v, hv, hK⟩ := pvalC_imp h
        simp only [hn, hv]; exact hK

def aopsC (G : Cfg) (all : List Oper) : List Oper → Env → HM → (Env → HM → Prop) → Prop
  | [], e, m, K => K e m
  | o :: r, e, m, K => wantC all o.guard e (aopC G o e m fun v m' => aopsC G all r (putE o.dst v e) m' K) (aopsC G all r (putE o.dst (.tup []) e) m K)

theorem aopsC_imp {G : Cfg} {all : List Oper} {K : Env → HM → Prop} : ∀ {l : List Oper} {e : Env} {m : HM}, aopsC G all l e m K → aopsL G all l e m K
  | [], _, _, h => h
  | o :: l, e, m, h => by
    simp only [aopsC] at h
    simp only [aopsL]
    rcases wantC_imp h with ⟨hw, h⟩ | ⟨hw, h⟩
    · simp only [hw]
      exact aop_mono (fun v m' hh => aopsC_imp hh) (aopC_imp h)
    · simp only [hw]
      exact aopsC_imp h

def loopNC (body : (Exit → Env → HM → Prop) → Env → HM → Prop) (d : List Nat) (Q : Exit → Env → HM → Prop) : Nat → Env → HM → Prop
  | 0, _, _ => False
  | k + 1, e, m => body (fun x e' m' => match x with
    | .normal => restr (fun e'' => loopNC body d Q k e'' m') e' d []
    | x => Q x e' m') e m

def swpC (G : Cfg) : Code → (Exit → Env → HM → Prop) → Env → HM → Prop
  | .skip, Q, e, m => Q .normal e m
  | .region id ops draw, Q, e, m => aopsC G ops.toList (seqOf G id draw ops.toList) e m (Q .normal)
  | .seq a b, Q, e, m => swpC G a (fun x e' m' => match x with
    | .normal => swpC G b Q e' m'
    | x => Q x e' m') e m
  | .cond c a b, Q, e, m => match opv e c with
    | some (.one (.bool t)) => match t with
      | true => swpC G a Q e m
      | false => swpC G b Q e m
    | _ => False
  | .block id b, Q, e, m => swpC G b (fun x e' m' => match x with
    | .exit i => match Nat.beq i id with
      | true => Q .normal e' m'
      | false => Q (.exit i) e' m'
    | x => Q x e' m') e m
  | .loop b, Q, e, m => (∃ k, loopNC (swpC G b) (dom e []) Q k e m) ∨ SEM G (.loop b) Q e m
  | .exit id, Q, e, m => Q (.exit id) e m
  | .ret, Q, e, m => Q .ret e m
  | .label _, Q, e, m => Q .normal e m
  | _, _, _, _ => False

theorem aopsL_mono {G : Cfg} {all : List Oper} {K K' : Env → HM → Prop} (hk : ∀ e m, K e m → K' e m) : ∀ {l : List Oper} {e : Env} {m : HM}, aopsL G all l e m K → aopsL G all l e m K'
  | [], _, _, h => hk _ _ h
  | o :: l, e, m, h => by
    simp only [aopsL] at h ⊢
    split at h
    · exact aop_mono (fun v m' hh => aopsL_mono hk hh) h
    · exact aopsL_mono hk h
    · exact h

theorem restr_mono {K K' : Env → Prop} {e : Env} (hk : ∀ e, K e → K' e) : ∀ {l : List Nat} {acc : Env}, restr K e l acc → restr K' e l acc
  | [], _, h => hk _ h
  | t :: l, acc, h => by
    simp only [restr] at h ⊢
    split at h
    · exact restr_mono hk h
    · exact restr_mono hk h

theorem SEM.mono {G : Cfg} {cd : Code} {Q Q' : Exit → Env → HM → Prop} (hq : ∀ x e m, Q x e m → Q' x e m) {e : Env} {m : HM} (h : SEM G cd Q e m) : SEM G cd Q' e m := fun N c a w hk hst =>
  wp_mono (h N c a w hk hst) fun x a' w' ⟨e', m', c', h1, h2⟩ => ⟨e', m', c', hq _ _ _ h1, h2⟩

theorem loopN_mono {body body' : (Exit → Env → HM → Prop) → Env → HM → Prop} {d : List Nat} {Q Q' : Exit → Env → HM → Prop} (hq : ∀ x e m, Q x e m → Q' x e m)
    (hb : ∀ R R' : Exit → Env → HM → Prop, (∀ x e m, R x e m → R' x e m) → ∀ e m, body R e m → body' R' e m) : ∀ (k : Nat) {e : Env} {m : HM}, loopNC body d Q k e m → loopN body' d Q' k e m
  | 0, _, _, h => h
  | k + 1, e, m, h => by
    simp only [loopNC] at h
    simp only [loopN]
    refine hb _ _ (fun x e m hh => ?_) _ _ h
    cases x with
    | normal => exact restr_mono (fun _ hh => loopN_mono hq hb k hh) hh
    | _ => exact hq _ _ _ hh

theorem swpC_imp {G : Cfg} : ∀ (cd : Code) {Q Q' : Exit → Env → HM → Prop} (_ : ∀ x e m, Q x e m → Q' x e m) {e : Env} {m : HM}, swpC G cd Q e m → swp G cd Q' e m
  | .skip, _, _, hq, _, _, h => hq _ _ _ h
  | .region .., _, _, hq, _, _, h => aopsL_mono (fun _ _ hh => hq _ _ _ hh) (aopsC_imp h)
  | .seq a b, _, _, hq, _, _, h => swpC_imp a (fun x e m hh => by
      cases x with
      | normal => exact swpC_imp b hq hh
      | _ => exact hq _ _ _ hh) h
  | .cond c a b, _, _, hq, _, _, h => by
    simp only [swpC] at h
    simp only [swp]
    split at h
    · rename_i hc
      split at h
      · simp only [hc]; exact swpC_imp a hq h
      · simp only [hc]; exact swpC_imp b hq h
    · exact h.elim
  | .block id b, _, _, hq, _, _, h => swpC_imp b (fun x e m hh => by
      cases x with
      | exit i =>
        simp only at hh ⊢
        cases hb : Nat.beq i id with
        | true => simp only [hb] at hh ⊢; exact hq _ _ _ hh
        | false => simp only [hb] at hh ⊢; exact hq _ _ _ hh
      | _ => exact hq _ _ _ hh) h
  | .loop b, _, _, hq, _, _, h => by
    simp only [swpC] at h
    simp only [swp]
    rcases h with ⟨k, h⟩ | h
    · exact .inl ⟨k, loopN_mono (body' := swp G b) hq (fun R R' hr e m hh => swpC_imp b hr hh) k h⟩
    · exact .inr (h.mono hq)
  | .exit _, _, _, hq, _, _, h => hq _ _ _ h
  | .ret, _, _, hq, _, _, h => hq _ _ _ h
  | .label _, _, _, hq, _, _, h => hq _ _ _ h
  | .rangeFunc .., _, _, _, _, _, h => h.elim
  | .scope .., _, _, _, _, _, h => h.elim
  | .goto .., _, _, _, _, _, h => h.elim
  | .refuse .., _, _, _, _, _, h => h.elim

/-- A cut between two stretches of code: what comes behind is only a name meanwhile. -/
theorem swp_cut {G : Cfg} {a b : Code} {Q : Exit → Env → HM → Prop} {e : Env} {m : HM}
    (h : ∀ K : Exit → Env → HM → Prop, (∀ e' m', swpC G b Q e' m' → K .normal e' m') → (∀ e' m', Q .ret e' m' → K .ret e' m') → (∀ i e' m', Q (.exit i) e' m' → K (.exit i) e' m') → swpC G a K e m) : swpC G (.seq a b) Q e m :=
  h _ (fun _ _ h => h) (fun _ _ h => h) (fun _ _ _ h => h)

/-- **A loop by its invariant.** -/
theorem loop_invC {G : Cfg} (hG : CfgOk G) {b : Code} {Q : Exit → Env → HM → Prop} (I : Nat → Env → HM → Prop) {e : Env} {m : HM}
    (round : ∀ k e' m', I k e' m' → swpC G b (fun x e1 m1 => match x with
      | .normal => ∃ j F, j < k ∧ ∀ c N1, Base.le m1.N N1 → Frozen F c N1 m1.bs → ∃ e2 bs2, Wk F c m.bs.length e1 m1 e2 ⟨bs2, N1⟩ ∧ I j e2 ⟨bs2, N1⟩
      | x => Q x e1 m1) e' m')
    (start : ∃ k F, ∀ c N1, Base.le m.N N1 → Frozen F c N1 m.bs → ∃ e' bs', Wk F c m.bs.length e m e' ⟨bs', N1⟩ ∧ I k e' ⟨bs', N1⟩) : SEM G (.loop b) Q e m :=
  loop_inv hG I (fun k e' m' hI => swpC_imp b (fun _ _ _ h => h) (round k e' m' hI)) start

end Go.Hv
