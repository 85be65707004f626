import Derived.Test.YtmappjgknpldpaaHv8
namespace Go.Hv
open Go.Ev

section
variable {G : Cfg} {c : Con} {m : HM} {e e' : Env} {a : Act} {w : World} {ops : Array Oper}

/-- More memory: what was there is there. -/
structure Grow (m m1 : HM) : Prop where
  bs : ∀ b x, nth m.bs b = some x → nth m1.bs b = some x
  N : Base.le m.N m1.N

theorem Grow.snoc (m : HM) (x : Option Blk) : Grow m ⟨m.bs ++ [x], m.N⟩ := ⟨fun b y h => by rw [nth_append_lt (nth_lt h)]; exact h, fun _ _ h => h⟩

theorem bcell_le {B B' : Base} (h : Base.le B B') {a : Addr} {v : Value} (hv : bcell B a v) : bcell B' a v := by
  obtain ⟨cells, el, fz, h1, h2⟩ := hv
  exact ⟨cells, el, fz, h _ _ h1, h2⟩

theorem or_le {A N N1 : Base} (h : Base.le N N1) : Base.le (A.or N) (A.or N1) := fun r o hr => hr.elim .inl fun hr => .inr (h r o hr)

theorem ERead_le {B B' : Base} (h : Base.le B B') {ag : Bool} {size : Nat} {a : Addr} {v : TV} (hv : ERead B ag size a v) : ERead B' ag size a v := by
  unfold ERead at *
  cases ag with
  | false => obtain ⟨s, h1, h2⟩ := hv; exact ⟨s, bcell_le h h1, h2⟩
  | true => obtain ⟨l, h1, h2, h3⟩ := hv; exact ⟨l, h1, fun i s hs => bcell_le h (h2 i s hs), h3⟩

theorem SliceHas_grow {A : Base} {m m1 : HM} (h : Grow m m1) {s : TV} {k : Nat} {cells : List Sc} (hs : SliceHas A m s k cells) : SliceHas A m1 s k cells := by
  unfold SliceHas at *
  split at hs
  · exact hs
  · split at hs
    · rename_i hx; rw [h.bs _ _ hx]; exact hs
    · exact hs.elim
  · exact ⟨hs.1, hs.2.1, fun i s hi => bcell_le (or_le h.N) (hs.2.2 i s hi)⟩
  · exact hs

/-- What only computes. -/
theorem aop_kind0 {o : Oper} {K : TV → HM → Prop} (hk : opKind G o.op = 0) (h : aop G o e m K) : ∃ v, pvalH G.T o.op e = some v ∧ K v m := by
  unfold aop at h
  split at h
  · rename_i ho; simp [opKind, ho] at hk
  · rename_i ho; simp [opKind, ho] at hk
  · rename_i ho; simp [opKind, ho] at hk
  · rename_i ho; simp [opKind, ho] at hk
  · rename_i f xs ts ho
    simp only [opKind, ho] at hk
    split at hk
    · cases hk
    · split at hk <;> cases hk
  · rename_i ho; simp [opKind, ho] at hk
  · rename_i ho; simp [opKind, ho] at hk
  · rename_i ho; simp [opKind, ho] at hk
  · split at h
    · rename_i hn
      obtain ⟨ps, ho, rfl⟩ := newOp_some hn
      simp [opKind, ho, newOp] at hk
    · split at h
      · rename_i v hv; exact ⟨v, hv, h⟩
      · split at h
        · rename_i s d x ho
          exfalso
          split at h
          · unfold aconv at h
            split at h
            · rename_i h1 h2; simp [opKind, ho, h1, h2] at hk
            · rename_i h1 h2; simp [opKind, ho, h1, h2] at hk
            · exact h
          · exact h
        · exact h.elim

theorem aop_of_kind0 {o : Oper} {K : TV → HM → Prop} (hk : opKind G o.op = 0) {v : TV} (hv : pvalH G.T o.op e = some v) (h : K v m) : aop G o e m K := by
  unfold aop
  split
  · rename_i ho; simp [opKind, ho] at hk
  · rename_i ho; simp [opKind, ho] at hk
  · rename_i ho; simp [opKind, ho] at hk
  · rename_i ho; simp [opKind, ho] at hk
  · rename_i f xs ts ho
    simp only [opKind, ho] at hk
    split at hk
    · cases hk
    · split at hk <;> cases hk
  · rename_i ho; simp [opKind, ho] at hk
  · rename_i ho; simp [opKind, ho] at hk
  · rename_i ho; simp [opKind, ho] at hk
  · split
    · rename_i hn
      obtain ⟨ps, ho, rfl⟩ := newOp_some hn
      simp [opKind, ho, newOp] at hk
    · rw [hv]; exact h

theorem conv_pvalH {s d : TypeId} {x : Operand} {T : Tys} (h : ∀ i, lk T d = some i → ∀ k, i.k ≠ .int k) : pvalH T (.convert s d x) e = none := by
  have h1 : pval T (.convert s d x) e = none := by
    simp only [pval]
    split
    · rename_i h1 h2 h3; exact absurd rfl (h _ h2 _)
    · rfl
  have h2 : pval2 T (.convert s d x) e = none := rfl
  simp [pvalH, h1, h2]

/-- What reads, in one form. -/
inductive Reads (G : Cfg) (o : Oper) (e : Env) : Prop where
  | load (t : TypeId) (x : Operand) (h : o.op = .load t x)
  | call (f : FuncId) (xs : Array Operand) (ts : Array TypeId) (h : o.op = .call { callee := .value (.func f), args := xs, argTypes := ts }) (hk : (∃ p, G.prim f = some p) ∨ (G.prim f = none ∧ G.kind f = 0))
  | conv (s d : TypeId) (x : Operand) (h : o.op = .convert s d x) (h1 : ∃ i el es eb ag, lk G.T s = some i ∧ i.k = .slice el es eb ag) (h2 : ∃ i, lk G.T d = some i ∧ i.k = .string)

theorem reads_of {o : Oper} (hk : opKind G o.op = 1) : Reads G o e := by
  unfold opKind at hk
  split at hk
  · cases hk
  · cases hk
  · cases hk
  · cases hk
  · rename_i t x ho; exact .load t x ho
  · rename_i f xs ts ho
    refine .call f xs ts ho ?_
    split at hk
    · rename_i p hp; exact .inl ⟨p, hp⟩
    · rename_i hp
      refine .inr ⟨hp, ?_⟩
      split at hk <;> first | assumption | cases hk
  · cases hk
  · cases hk
  · rename_i s d x ho
    split at hk
    · rename_i h1 h2; exact .conv s d x ho ⟨_, _, _, _, _, h1, rfl⟩ ⟨_, h2, rfl⟩
    · cases hk
    · cases hk
  · split at hk <;> cases hk

theorem aop_load {o : Oper} {t : TypeId} {x : Operand} (ho : o.op = .load t x) {K : TV → HM → Prop} : aop G o e m K = match opv e x with
    | some v => aload G t v m K
    | none => False := by unfold aop; rw [ho]; rfl

theorem aop_call {o : Oper} {f : FuncId} {xs : Array Operand} {ts : Array TypeId} (ho : o.op = .call { callee := .value (.func f), args := xs, argTypes := ts }) {K : TV → HM → Prop} : aop G o e m K = match getOps e xs.toList with
    | some vs => acall G f vs m K
    | none => False := by unfold aop; rw [ho]; rfl

theorem aop_conv {o : Oper} {s d : TypeId} {x : Operand} (ho : o.op = .convert s d x) (h2 : ∃ i, lk G.T d = some i ∧ ∀ k, i.k ≠ .int k) {K : TV → HM → Prop} : aop G o e m K = match opv e x with
    | some v => aconv G s d v m K
    | none => False := by
  obtain ⟨i, hi, hk⟩ := h2
  have := conv_pvalH (e := e) (s := s) (d := d) (x := x) (T := G.T) (fun j hj => by rw [hi] at hj; simp only [Option.some.injEq] at hj; subst hj; exact hk)
  unfold aop
  rw [ho]
  simp only [newOp, this]
  rfl

theorem aop_kind1 (hG : CfgOk G) {o : Oper} {K : TV → HM → Prop} (hk : opKind G o.op = 1) (h : aop G o e m K) : ∃ v, (∀ m1, Grow m m1 → aop G o e m1 (fun v' m' => v' = v ∧ m' = m1)) ∧ K v m := by
  cases reads_of (e := e) hk with
  | load t x ho =>
    simp only [aop_load ho] at h ⊢
    split at h
    · rename_i u hu
      unfold aload at *
      split at h
      · split at h
        · rename_i k hn
          split at h
          · rename_i v hv
            refine ⟨v, fun m1 hg => ?_, h⟩
            rw [hg.bs _ _ hn]
            simp only [hv]
            exact ⟨by trivial, by trivial⟩
          · exact h.elim
        · exact h.elim
      · obtain ⟨v, h1, h2⟩ := h
        exact ⟨v, fun m1 hg => ⟨v, ERead_le (or_le hg.N) h1, rfl, rfl⟩, h2⟩
      · exact h.elim
    · exact h.elim
  | call f xs ts ho hc =>
    simp only [aop_call ho] at h ⊢
    split at h
    · rename_i vs hvs
      unfold acall at *
      rcases hc with ⟨p, hp⟩ | ⟨hp, hkind⟩
      · simp only [hp] at h ⊢
        obtain ⟨v, hK, hall, _⟩ := hG.prim f p hp default vs _ h
        exact ⟨v, fun m1 _ => hall _ ⟨rfl, by trivial⟩, hK⟩
      · simp only [hp, hkind] at h ⊢
        obtain ⟨v, h1, h2, h3⟩ := h
        exact ⟨v, fun m1 _ => ⟨v, h1, h2, by trivial, by trivial⟩, h3⟩
    · exact h.elim
  | conv s d x ho h1 h2 =>
    obtain ⟨i2, hi2, hk2⟩ := h2
    have hno : ∃ i, lk G.T d = some i ∧ ∀ k, i.k ≠ .int k := ⟨i2, hi2, fun k e => by rw [hk2] at e; cases e⟩
    simp only [aop_conv ho hno] at h ⊢
    split at h
    · rename_i u hu
      unfold aconv at *
      split at h
      · split at h
        · obtain ⟨l, g1, g2, g3, g4⟩ := h
          exact ⟨_, fun m1 hg => ⟨l, g1, SliceHas_grow hg g2, g3, rfl, rfl⟩, g4⟩
        · exact h.elim
      · rename_i hd; exfalso
        rw [hi2] at hd
        simp only [Option.some.injEq] at hd
        subst hd; cases hk2
      · exact h.elim
    · exact h.elim

/-- What makes one block: which. -/
def allocV (G : Cfg) (o : Oper) (e : Env) (n : Nat) : Option (TV × Blk) :=
  match o.op with
  | .alloc t => match lk G.T t with
    | some i => some (.one (.ptr (some (.loc n 0))), ⟨i.zero, t, 0, false⟩)
    | none => none
  | .box t x => match opv e x with
    | some v => match v.cells with
      | some cs => some (.one (.ptr (some (.loc n 0))), ⟨cs, t, 0, false⟩)
      | none => none
    | none => none
  | .buildSlice t k ps => match opvP e ps.toList with
    | some vs => match lk G.T t with
      | some { k := .slice el es _ _, .. } => match lk G.T el with
        | some i => match decide (k * es ≤ 16777216 ∧ i.zero.length = es) with
          | true => match fillA es (repS k i.zero) vs with
            | some cs => some (.one (.slice (some (.loc n 0)) k k), ⟨cs, el, 0, false⟩)
            | none => none
          | false => none
        | none => none
      | _ => none
    | none => none
  | _ => none

theorem aop_kind3 {o : Oper} (hk : opKind G o.op = 3) (m : HM) (K : TV → HM → Prop) : aop G o e m K = match allocV G o e m.bs.length with
    | some (v, x) => K v ⟨m.bs ++ [some x], m.N⟩
    | none => False := by
  unfold aop allocV
  unfold opKind at hk
  split at hk
  · rename_i t ho
    simp only [ho, snoc_eq]
    split <;> simp_all
  · rename_i t x ho
    simp only [ho, snoc_eq]
    split
    · split <;> simp_all
    · simp_all
  · cases hk
  · cases hk
  · cases hk
  · split at hk
    · cases hk
    · split at hk <;> cases hk
  · cases hk
  · cases hk
  · split at hk <;> cases hk
  · split at hk
    · rename_i r hn
      obtain ⟨t, n, l⟩ := r
      obtain ⟨qs, ho, rfl⟩ := newOp_some hn
      simp only [ho, newOp]
      cases hvs : opvP e qs.toList with
      | none => rfl
      | some vs =>
        simp only [abuild]
        cases hA : lk G.T t with
        | none => rfl
        | some i =>
          obtain ⟨ag, size, zero, eqok, k⟩ := i
          cases k with
          | slice el es eb eagg =>
            simp only
            cases hB : lk G.T el with
            | none => rfl
            | some j =>
              simp only
              cases hC : decide (n * es ≤ 16777216 ∧ j.zero.length = es) with
              | false => rfl
              | true =>
                simp only
                cases hD : fillA es (repS n j.zero) vs with
                | none => rfl
                | some cs => simp only [snoc_eq, optM]
          | _ => rfl
    · cases hk

/-- What makes memory, over more of it. -/
theorem aop_grow {o : Oper} {K K' : TV → HM → Prop} (hk : opKind G o.op = 3 ∨ opKind G o.op = 4 ∨ opKind G o.op = 5) (hkk : ∀ v m1, Grow m m1 → K v m1 → K' v m1) (h : aop G o e m K) : aop G o e m K' := by
  rcases hk with hk | hk | hk
  · rw [aop_kind3 hk] at h ⊢
    split at h
    · exact hkk _ _ (Grow.snoc m _) h
    · exact h
  all_goals
    unfold opKind at hk
    split at hk
    · cases hk
    · cases hk
    · cases hk
    · cases hk
    · cases hk
    · rename_i f xs ts ho
      simp only [aop_call ho] at h ⊢
      split at h
      · unfold acall at *
        split at hk
        · cases hk
        · rename_i hp
          simp only [hp] at h ⊢
          split at hk
          · cases hk
          · rename_i hkd
            first
            | (simp only [hkd] at h ⊢
               obtain ⟨K0, h1, h2, h3⟩ := h
               exact ⟨K0, h1, h2, fun v N' hc hv N1 hN => hkk _ _ ⟨fun _ _ h => h, fun r o hr => hN r o (.inl hr)⟩ (h3 v N' hc hv N1 hN)⟩)
            | cases hk
          · rename_i hkd
            first
            | (simp only [hkd] at h ⊢
               obtain ⟨K0, h1, h2, h3⟩ := h
               refine ⟨K0, h1, h2, fun n cap k N' hc hv N1 hN => ?_⟩
               have := h3 n cap k N' hc hv N1 hN
               simp only [snoc_eq] at this ⊢
               exact hkk _ _ ⟨fun b y h => by rw [nth_append_lt (nth_lt h)]; exact h, fun r o hr => hN r o (.inl hr)⟩ this)
            | cases hk
          · cases hk
      · exact h
    · cases hk
    · cases hk
    · rename_i s d x ho
      split at hk
      · cases hk
      · rename_i h1 h2
        first
        | (simp only [aop_conv ho ⟨_, h2, fun k e => by cases e⟩] at h ⊢
           split at h
           · unfold aconv at *
             split at h
             · rename_i h3 h4; rw [h1] at h3; cases h3
             · split at h
               · exact ⟨h.1, fun a cap N1 g1 g2 g3 g4 g5 => hkk _ _ ⟨fun _ _ h => h, g4⟩ (h.2 a cap N1 g1 g2 g3 g4 g5)⟩
               · exact h
             · exact h
           · exact h)
        | cases hk
      · cases hk
    · split at hk <;> cases hk

end
end Go.Hv
