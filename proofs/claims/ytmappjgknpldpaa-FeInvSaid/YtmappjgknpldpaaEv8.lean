import Derived.Test.YtmappjgknpldpaaEv7
namespace Go.Ev

section
variable {G : Cfg} {c : Con} {m : Mem} {e e' : Env} {a : Act} {w : World} {ops : Array Oper}

def EnvEq (e e' : Env) : Prop := ∀ t, get e t = get e' t

theorem EnvEq.symm (h : EnvEq e e') : EnvEq e' e := fun t => (h t).symm

/-- The slots that an operation looks at hold the same. -/
def SameAt (l : List Tmp) (e e' : Env) : Prop := ∀ t ∈ l, get e t = get e' t

theorem opv_same {x : Operand} (h : ∀ t, x = .tmp t → get e t = get e' t) : opv e x = opv e' x := by
  cases x with
  | tmp t => exact h t rfl
  | _ => rfl

theorem getOps_same : ∀ {xs : List Operand}, (∀ x ∈ xs, opv e x = opv e' x) → getOps e xs = getOps e' xs
  | [], _ => rfl
  | x :: xs, h => by
    simp only [getOps, h x (by simp), getOps_same (xs := xs) (fun y hy => h y (by simp [hy]))]

theorem opvP_same : ∀ {xs : List (Nat × Operand)}, (∀ x ∈ xs, opv e x.2 = opv e' x.2) → opvP e xs = opvP e' xs
  | [], _ => rfl
  | (i, x) :: xs, h => by
    simp only [opvP, h (i, x) (by simp), opvP_same (xs := xs) (fun y hy => h y (by simp [hy]))]

theorem bound_same {x : Option Operand} {d : Nat} (h : ∀ y ∈ x.toList, opv e y = opv e' y) : bound e x d = bound e' x d := by
  cases x with
  | none => rfl
  | some y => simp [bound, h y (by simp)]

theorem pval_same {T : Tys} {op : Op} (h : ∀ x ∈ op.operands.toList, opv e x = opv e' x) : pval T op e = pval T op e' := by
  cases op with
  | move x | assign x => exact h x (by simp [Op.operands])
  | pick x y z => simp only [pval, h x (by simp [Op.operands]), h y (by simp [Op.operands]), h z (by simp [Op.operands])]
  | nilCheck x | unOp _ _ x | convert _ _ x | extract x _ | fieldAddr _ x _ | field _ x _ | sliceToArrayPointer _ x => simp only [pval, h x (by simp [Op.operands])]
  | binOp _ _ x y _ | indexAddr _ x y | index _ x y => simp only [pval, h x (by simp [Op.operands]), h y (by simp [Op.operands])]
  | build t ps =>
    have := opvP_same (e := e) (e' := e') (xs := ps.toList) (fun p hp => h p.2 (by simp [Op.operands]; exact ⟨p.1, by simpa using hp⟩))
    simp only [pval, this]
  | slice t x lo hi mx =>
    cases mx with
    | some _ => rfl
    | none =>
      simp only [pval, h x (by simp [Op.operands]), bound_same (e := e) (e' := e') (x := lo) (d := 0) (fun y hy => h y (by simp [Op.operands]; simp at hy; simp [hy])),
        bound_same (e := e) (e' := e') (x := hi) (fun y hy => h y (by simp [Op.operands]; simp at hy; simp [hy]))]
  | call cl =>
    obtain ⟨callee, xs, ts⟩ := cl
    have := getOps_same (e := e) (e' := e') (xs := xs.toList) (fun x hx => h x (by simp [Op.operands, Call.operands]; right; simpa using hx))
    cases callee with
    | builtin b => cases b <;> simp only [pval, this]
    | _ => rfl
  | _ => rfl

theorem aop_same {o : Oper} {K : TV → Mem → Prop} (h : ∀ x ∈ o.op.operands.toList, opv e x = opv e' x) (hh : aop G o e m K) : aop G o e' m K := by
  unfold aop at *
  have hp := pval_same (T := G.T) h
  split at hh
  · exact hh
  · rename_i t x ho
    rw [ho] at h
    simp only [← h x (by simp [Op.operands])]; exact hh
  · rename_i t x ho
    rw [ho] at h
    simp only [← h x (by simp [Op.operands])]; exact hh
  · rename_i t x y ho
    rw [ho] at h
    simp only [← h x (by simp [Op.operands]), ← h y (by simp [Op.operands])]; exact hh
  · rename_i f xs ts ho
    rw [ho] at h
    have := getOps_same (e := e) (e' := e') (xs := xs.toList) (fun x hx => h x (by simp [Op.operands, Call.operands]; right; simpa using hx))
    simp only [← this]; exact hh
  · rename_i xs ts ho
    rw [ho] at h
    have := getOps_same (e := e) (e' := e') (xs := xs.toList) (fun x hx => h x (by simp [Op.operands, Call.operands]; simpa using hx))
    simp only [← this]; exact hh
  · split at hh
    · rename_i t n psl hn
      obtain ⟨ps, ho, rfl⟩ := newOp_some hn
      rw [ho] at h
      have := opvP_same (e := e) (e' := e') (xs := ps.toList) (fun x hx => h x.2 (by simp only [Op.operands]; simp only [List.mem_map]; exact ⟨x, hx, rfl⟩))
      simp only [← this]; exact hh
    · simp only [← hp]; exact hh

theorem primC_mono {p : Prim} {args : List TV} {K K' : TV → Prop} (hk : ∀ v, K v → K' v) (h : primC p args K) : primC p args K' := by
  unfold primC at *
  split at h
  · exact ⟨h.1, fun s t h1 h2 h3 h4 => hk _ (h.2 s t h1 h2 h3 h4)⟩
  · exact ⟨h.1, fun s t h1 h2 h3 h4 h5 => hk _ (h.2 s t h1 h2 h3 h4 h5)⟩
  · exact ⟨h.1, fun s t h1 h2 h3 h4 h5 h6 => hk _ (h.2 s t h1 h2 h3 h4 h5 h6)⟩
  · exact h

theorem acall_mono {f : FuncId} {args : List TV} {K K' : TV → Mem → Prop} (hk : ∀ v m, K v m → K' v m) (h : acall G f args m K) : acall G f args m K' := by
  unfold acall at *
  split at h
  · exact primC_mono (fun v => hk v m) h
  · split at h
    · split at h
      · obtain ⟨v, h1, h2, h3⟩ := h; exact ⟨v, h1, h2, hk _ _ h3⟩
      · exact h.elim
    · obtain ⟨R, h1, h2, h3⟩ := h; exact ⟨R, h1, h2, fun v m' hr => hk _ _ (h3 v m' hr)⟩

theorem aload_mono {t : TypeId} {x : TV} {K K' : TV → Mem → Prop} (hk : ∀ v m, K v m → K' v m) (h : aload G t x m K) : aload G t x m K' := by
  unfold aload at *
  split at h
  · split at h
    · split at h
      · exact hk _ _ h
      · exact h
    · exact h
  · obtain ⟨v, h1, h2⟩ := h; exact ⟨v, h1, hk _ _ h2⟩
  · exact h

theorem aop_mono {o : Oper} {K K' : TV → Mem → Prop} (hk : ∀ v m, K v m → K' v m) (h : aop G o e m K) : aop G o e m K' := by
  unfold aop at *
  split at h
  · split at h
    · exact hk _ _ h
    · exact h
  · split at h
    · split at h
      · exact hk _ _ h
      · exact h
    · exact h
  · split at h
    · exact aload_mono hk h
    · exact h
  · split at h
    · split at h
      · exact hk _ _ h
      · exact h
    · exact h
  · split at h
    · exact acall_mono hk h
    · exact h
  · split at h
    · unfold optM at *
      split at h
      · exact hk _ _ h
      · exact h
    · exact h
  · split at h
    · split at h
      · unfold optM at *
        split at h
        · exact hk _ _ h
        · exact h
      · exact h
    · split at h
      · exact hk _ _ h
      · exact h

theorem acall_strict (hG : CfgOk G) {f : FuncId} {args : List TV} {K : TV → Mem → Prop} (h : acall G f args m K) : ∃ v m', K v m' := by
  unfold acall at h
  split at h
  · rename_i p hp
    obtain ⟨v, hK, _⟩ := hG.prim f p hp args _ h
    exact ⟨v, m, hK⟩
  · split at h
    · split at h
      · obtain ⟨v, _, _, h3⟩ := h; exact ⟨v, m, h3⟩
      · exact h.elim
    · obtain ⟨R, _, ⟨v, m', h2⟩, h3⟩ := h; exact ⟨v, m', h3 v m' h2⟩

theorem aop_strict (hG : CfgOk G) {o : Oper} {K : TV → Mem → Prop} (h : aop G o e m K) : ∃ v m', K v m' := by
  unfold aop at h
  split at h
  · split at h
    · exact ⟨_, _, h⟩
    · exact h.elim
  · split at h
    · split at h
      · exact ⟨_, _, h⟩
      · exact h.elim
    · exact h.elim
  · split at h
    · unfold aload at h
      split at h
      · split at h
        · split at h
          · exact ⟨_, _, h⟩
          · exact h.elim
        · exact h.elim
      · obtain ⟨v, _, h2⟩ := h; exact ⟨_, _, h2⟩
      · exact h.elim
    · exact h.elim
  · split at h
    · split at h
      · exact ⟨_, _, h⟩
      · exact h.elim
    · exact h.elim
  · split at h
    · exact acall_strict hG h
    · exact h.elim
  · split at h
    · unfold optM at h
      split at h
      · exact ⟨_, _, h⟩
      · exact h.elim
    · exact h.elim
  · split at h
    · split at h
      · unfold optM at h
        split at h
        · exact ⟨_, _, h⟩
        · exact h.elim
      · exact h.elim
    · split at h
      · exact ⟨_, _, h⟩
      · exact h.elim

/-- What only computes. -/
theorem aop_kind0 {o : Oper} {K : TV → Mem → Prop} (hk : opKind G o.op = 0) (h : aop G o e m K) : ∃ v, pval G.T o.op e = some v ∧ K v m := by
  unfold aop at h
  split at h
  · rename_i ho; simp [opKind, ho] at hk
  · rename_i ho; simp [opKind, ho] at hk
  · rename_i ho; simp [opKind, ho] at hk
  · rename_i ho; simp [opKind, ho] at hk
  · rename_i f xs ts ho
    simp only [opKind, ho] at hk
    split at hk
    · cases hk
    · split at hk <;> cases hk
  · rename_i ho; simp [opKind, ho] at hk
  · split at h
    · rename_i hn
      obtain ⟨ps, ho, rfl⟩ := newOp_some hn
      simp [opKind, ho, newOp] at hk
    · split at h
      · rename_i v hv; exact ⟨v, hv, h⟩
      · exact h.elim

theorem aop_of_kind0 {o : Oper} {K : TV → Mem → Prop} (hk : opKind G o.op = 0) {v : TV} (hv : pval G.T o.op e = some v) (h : K v m) : aop G o e m K := by
  unfold aop
  split
  · rename_i ho; simp [opKind, ho] at hk
  · rename_i ho; simp [opKind, ho] at hk
  · rename_i ho; simp [opKind, ho] at hk
  · rename_i ho; simp [opKind, ho] at hk
  · rename_i f xs ts ho
    simp only [opKind, ho] at hk
    split at hk
    · cases hk
    · split at hk <;> cases hk
  · rename_i ho; simp [opKind, ho] at hk
  · split
    · rename_i hn
      obtain ⟨ps, ho, rfl⟩ := newOp_some hn
      simp [opKind, ho, newOp] at hk
    · rw [hv]; exact h

/-- What reads: one value, the memory as it was. -/
theorem aop_kind1 (hG : CfgOk G) {o : Oper} {K : TV → Mem → Prop} (hk : opKind G o.op = 1) (h : aop G o e m K) : ∃ v, aop G o e m (fun v' m' => v' = v ∧ m' = m) ∧ K v m := by
  unfold aop at *
  split at h
  · rename_i ho; simp [opKind, ho] at hk
  · rename_i ho; simp [opKind, ho] at hk
  · split at h
    · unfold aload at *
      split at h
      · split at h
        · split at h
          · rename_i v hv; exact ⟨v, ⟨rfl, rfl⟩, h⟩
          · exact h.elim
        · exact h.elim
      · obtain ⟨v, h1, h2⟩ := h; exact ⟨v, ⟨v, h1, rfl, rfl⟩, h2⟩
      · exact h.elim
    · exact h.elim
  · rename_i ho; simp [opKind, ho] at hk
  · rename_i f xs ts ho
    split at h
    · rename_i vs hvs
      unfold acall at *
      simp only [opKind, ho] at hk
      split at h
      · rename_i p hp
        obtain ⟨v, hK, hall, _⟩ := hG.prim f p hp vs _ h
        exact ⟨v, hall _ ⟨rfl, rfl⟩, hK⟩
      · rename_i hp
        simp only [hp] at hk
        split at h
        · split at h
          · obtain ⟨v, h1, h2, h3⟩ := h; exact ⟨v, ⟨v, h1, h2, rfl, rfl⟩, h3⟩
          · exact h.elim
        · rename_i hr; simp [hr] at hk
    · exact h.elim
  · rename_i ho; simp [opKind, ho] at hk
  · rename_i h1 h2 h3 h4 h5 h6
    exfalso
    revert hk
    cases hop : o.op <;> simp [opKind, newOp]
    · exact h3 _ _ hop
    · rename_i cl
      obtain ⟨callee, xs, ts⟩ := cl
      cases callee with
      | value f => cases f <;> simp; exact absurd hop (h5 _ _ _)
      | builtin b => cases b <;> simp
      | _ => simp

end
end Go.Ev
