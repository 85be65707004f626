import Derived.Test.YtmappjgknpldpaaEv8
namespace Go.Ev
section
variable {G : Cfg} {ops : Array Oper}

/-- One operation with its guard. -/
def aSt (G : Cfg) (ops : Array Oper) (o : Oper) (e : Env) (m : Mem) (K : TV → Mem → Prop) : Prop :=
  match wantedA ops.toList o.guard e with
  | some true => aop G o e m K
  | some false => K (.tup []) m
  | none => False

theorem wantedA_same {o : Oper} {e e' : Env} (h : SameAt (o.looksAt ops) e e') : wantedA ops.toList o.guard e = wantedA ops.toList o.guard e' := by
  unfold wantedA
  cases hg : o.guard with
  | none => rfl
  | some gw =>
    obtain ⟨j, want⟩ := gw
    simp only
    cases ho : ops.toList[j]? with
    | none => rfl
    | some oj =>
      simp only
      cases hd : oj.dst with
      | none => rfl
      | some t =>
        simp only
        have : t ∈ o.looksAt ops := by
          unfold Oper.looksAt
          rw [hg]
          have : ops[j]? = some oj := by simpa using ho
          simp [this, hd]
        rw [h t this]

theorem operands_same {o : Oper} {e e' : Env} (h : SameAt (o.looksAt ops) e e') : ∀ x ∈ o.op.operands.toList, opv e x = opv e' x := fun x hx =>
  opv_same fun t ht => h t (by
    unfold Oper.looksAt
    exact List.mem_append_left _ (List.mem_filterMap.2 ⟨x, hx, by rw [ht]⟩))

theorem aSt_same {o : Oper} {e e' : Env} {m : Mem} {K : TV → Mem → Prop} (h : SameAt (o.looksAt ops) e e') (hh : aSt G ops o e m K) : aSt G ops o e' m K := by
  unfold aSt at *
  rw [← wantedA_same h]
  split at hh
  · exact aop_same (operands_same h) hh
  · exact hh
  · exact hh

theorem aSt_mono {o : Oper} {e : Env} {m : Mem} {K K' : TV → Mem → Prop} (hk : ∀ v m, K v m → K' v m) (h : aSt G ops o e m K) : aSt G ops o e m K' := by
  unfold aSt at *
  split at h
  · exact aop_mono hk h
  · exact hk _ _ h
  · exact h

theorem aSt_strict (hG : CfgOk G) {o : Oper} {e : Env} {m : Mem} {K : TV → Mem → Prop} (h : aSt G ops o e m K) : ∃ v m', K v m' := by
  unfold aSt at h
  split at h
  · exact aop_strict hG h
  · exact ⟨_, _, h⟩
  · exact h.elim

def pv0 (G : Cfg) (ops : Array Oper) (o : Oper) (e : Env) : Option TV :=
  match wantedA ops.toList o.guard e with
  | some true => pval G.T o.op e
  | some false => some (.tup [])
  | none => none

theorem aSt_kind0 {o : Oper} {e : Env} {m : Mem} {K : TV → Mem → Prop} (hk : opKind G o.op = 0) (h : aSt G ops o e m K) : ∃ v, pv0 G ops o e = some v ∧ K v m := by
  unfold aSt at h
  unfold pv0
  split at h
  · exact aop_kind0 hk h
  · exact ⟨_, rfl, h⟩
  · exact h.elim

theorem aSt_of_kind0 {o : Oper} {e : Env} {m : Mem} {K : TV → Mem → Prop} (hk : opKind G o.op = 0) {v : TV} (hv : pv0 G ops o e = some v) (h : K v m) : aSt G ops o e m K := by
  unfold aSt
  unfold pv0 at hv
  split at hv
  · rename_i hw; exact aop_of_kind0 hk hv h
  · rename_i hw
    simp only [Option.some.injEq] at hv
    subst hv; exact h
  · cases hv

theorem aSt_kind1 (hG : CfgOk G) {o : Oper} {e : Env} {m : Mem} {K : TV → Mem → Prop} (hk : opKind G o.op = 1) (h : aSt G ops o e m K) : ∃ v, aSt G ops o e m (fun v' m' => v' = v ∧ m' = m) ∧ K v m := by
  unfold aSt at *
  split at h
  · exact aop_kind1 hG hk h
  · exact ⟨_, ⟨rfl, rfl⟩, h⟩
  · exact h.elim

theorem closedTs_iff {n : Nat} : ∀ {l : List TV}, closedTs n l = true ↔ ∀ v ∈ l, v.closed n = true
  | [] => by simp [closedTs]
  | v :: l => by
    simp only [closedTs, List.mem_cons, forall_eq_or_imp]
    rw [← closedTs_iff (l := l)]
    cases v.closed n <;> simp

theorem closedMs_spec {n : Nat} : ∀ {l : Mem}, closedMs n l = true → ∀ b x, nth l b = some x → closedL n x.cells = true
  | [], _, b, x, hx => by simp [nth] at hx
  | some y :: l, h, b, x, hx => by
    simp only [closedMs] at h
    split at h
    · rename_i hy
      cases b with
      | zero =>
        simp only [nth, Option.some.injEq] at hx
        subst hx; exact hy
      | succ b => exact closedMs_spec h b x hx
    · cases h
  | none :: l, h, b, x, hx => by
    simp only [closedMs] at h
    cases b with
    | zero => simp [nth] at hx
    | succ b => exact closedMs_spec h b x hx

theorem closedMs_snoc {n n' : Nat} {z : Option Blk} : ∀ {l : Mem}, closedMs n l = true → n ≤ n' → (∀ x, z = some x → closedL 0 x.cells = true) → closedMs n' (l ++ [z]) = true
  | [], _, _, hz => by
    cases z with
    | none => rfl
    | some x => simp [closedMs, closedL_mono (Nat.zero_le n') (hz x rfl)]
  | some y :: l, h, hn, hz => by
    simp only [closedMs] at h
    split at h
    · rename_i hy
      simp only [List.cons_append, closedMs, closedL_mono hn hy]
      exact closedMs_snoc h hn hz
    · cases h
  | none :: l, h, hn, hz => by
    simp only [closedMs] at h
    simp only [List.cons_append, closedMs]
    exact closedMs_snoc h hn hz

/-- A call that only reads, over one block more. -/
theorem CALL_ext {P : Program} {W0 : World} {f : FuncId} {args : List TV} {m : Mem} {v : TV} {z : Option Blk} (h : CALL P W0 f args m fun v' m' => v' = v ∧ m' = m) (ha : (closedTs m.length args && closedMs m.length m) = true) (hv : v.closed m.length = true) :
    CALL P W0 f args (m ++ [z]) fun v' m' => v' = v ∧ m' = m ++ [z] := by
  refine ⟨h.1, fun c w hr _ => ?_⟩
  have old : ∀ b x, nth m b = some x → nth (m ++ [z]) b = some x := fun b x hx => by rw [nth_append_lt (nth_lt hx)]; exact hx
  have hz : ∀ b x, nth (m ++ [z]) b = some x → nth m b = some x ∨ (b = m.length ∧ z = some x) := fun b x hx => by
    have hlt := nth_lt hx
    simp only [List.length_append, List.length_cons, List.length_nil] at hlt
    by_cases hb : b < m.length
    · rw [nth_append_lt hb] at hx; exact .inl hx
    · have : b = m.length := by omega
      subst this
      rw [nth_append_last] at hx
      exact .inr ⟨rfl, hx⟩
  simp only [Bool.and_eq_true] at ha
  obtain ⟨ha, hcm⟩ := ha
  have hcl : ∀ b x, nth m b = some x → closedL m.length x.cells = true := closedMs_spec hcm
  have hr0 : RelM W0 c m w := ⟨fun b x hx => hr.blk b x (old b x hx), hcl, fun a b x y hx hy e => hr.inj a b x y (old a x hx) (old b y hy) e,
    fun b hb => hr.ge b (by simp; omega), fun b hb => hr.lt b (by simp; omega), hr.ext, hr.size, hr.os, hr.tape, hr.output⟩
  refine (h.2 c w hr0 (closedTs_iff.1 ha)).mono fun e w' hh => ?_
  obtain ⟨v', m', c', h1, h2, h3, h4, rfl, rfl⟩ := hh
  have hag : Agree m'.length c c' := h3.agree
  refine ⟨v', m' ++ [z], c, by rw [h1, TV.conc_agree hag hv], ?_, ?_, TV.closed_mono (by simp) hv, rfl, rfl⟩
  · refine ⟨fun b x hx => ?_, hr.cl, hr.inj, hr.ge, fun b hb => Nat.lt_of_lt_of_le (hr.lt b hb) h3.size, h2.ext, h2.size, h2.os, h2.tape, h2.output⟩
    rcases hz b x hx with hx' | ⟨rfl, rfl⟩
    · obtain ⟨junk, k1, k2, k3⟩ := h2.blk b x hx'
      have hb := nth_lt hx'
      rw [(hag b hb).1, concL_agree hag (hcl b x hx')] at k1
      rw [(hag b hb).2] at k3
      exact ⟨junk, k1, k2, k3⟩
    · obtain ⟨junk, k1, k2, k3⟩ := hr.blk _ x hx
      refine ⟨junk, ?_, k2, k3⟩
      rw [h3.keep _ (hr.lt _ (nth_lt hx)) (fun d y hd e' => ?_)]
      · exact k1
      · have := hr.inj d m'.length y x (old d y hd) hx e'
        have := nth_lt hd
        omega
  · refine ⟨Nat.le_refl _, fun _ _ => ⟨rfl, rfl⟩, h3.size, fun r hr' hno => h3.keep r hr' fun b x hx => hno b x (old b x hx), fun b x hx h1 => absurd (nth_lt hx) (by omega), fun b x hx _ => ⟨x, hx⟩⟩

/-- What reads, over one block more. -/
theorem aSt_ext {o : Oper} {e : Env} {m : Mem} {v : TV} {z : Option Blk} (hz : ∀ x, z = some x → closedL 0 x.cells = true) (hk : opKind G o.op = 1) (h : aSt G ops o e m fun v' m' => v' = v ∧ m' = m) :
    aSt G ops o e (m ++ [z]) fun v' m' => v' = v ∧ m' = m ++ [z] := by
  unfold aSt at *
  split at h
  · unfold aop at *
    split at h
    · rename_i ho; simp [opKind, ho] at hk
    · rename_i ho; simp [opKind, ho] at hk
    · split at h
      · unfold aload at *
        split at h
        · split at h
          · rename_i k hn
            rw [nth_append_lt (nth_lt hn), hn]
            split at h
            · rename_i u hu
              simp only [hu]
              exact ⟨h.1, trivial⟩
            · exact h.elim
          · exact h.elim
        · obtain ⟨u, h1, h2⟩ := h; exact ⟨u, h1, h2.1, rfl⟩
        · exact h.elim
      · exact h.elim
    · rename_i ho; simp [opKind, ho] at hk
    · rename_i f xs ts ho
      split at h
      · rename_i vs hvs
        unfold acall at *
        simp only [opKind, ho] at hk
        split at h
        · exact primC_mono (fun v' hv' => ⟨hv'.1, rfl⟩) h
        · rename_i hp
          simp only [hp] at hk
          split at h
          · split at h
            · rename_i hcl
              obtain ⟨u, h1, h2, h3, _⟩ := h
              subst h3
              have hcl' : (closedTs (m ++ [z]).length vs && closedMs (m ++ [z]).length (m ++ [z])) = true := by
                simp only [Bool.and_eq_true] at hcl ⊢
                exact ⟨closedTs_iff.2 fun v hv => TV.closed_mono (by simp) (closedTs_iff.1 hcl.1 v hv), closedMs_snoc hcl.2 (by simp) hz⟩
              rw [hcl']
              exact ⟨u, CALL_ext h1 hcl h2, TV.closed_mono (by simp) h2, rfl, rfl⟩
            · exact h.elim
          · rename_i hr; simp [hr] at hk
      · exact h.elim
    · rename_i ho; simp [opKind, ho] at hk
    · rename_i h1 h2 h3 h4 h5 h6
      exfalso
      revert hk
      cases hop : o.op <;> simp [opKind, newOp]
      · exact h3 _ _ hop
      · rename_i cl
        obtain ⟨callee, xs, ts⟩ := cl
        cases callee with
        | value f => cases f <;> simp; exact absurd hop (h5 _ _ _)
        | builtin b => cases b <;> simp
        | _ => simp
  · exact ⟨h.1, rfl⟩
  · exact h.elim

/-- What makes a block. -/
theorem aSt_alloc (hG : CfgOk G) {o : Oper} {e : Env} {m : Mem} {K K' : TV → Mem → Prop} (hk : opKind G o.op = 3) (hkk0 : ∀ v, K v m → K' v m)
    (hkk : ∀ z v, (∀ x, z = some x → closedL 0 x.cells = true) → K v (m ++ [z]) → K' v (m ++ [z])) (h : aSt G ops o e m K) : aSt G ops o e m K' := by
  unfold aSt at *
  split at h
  · unfold aop at *
    split at h
    · rename_i t ho
      split at h
      · rename_i i ht
        simp only
        rw [snoc_eq] at h ⊢
        exact hkk _ _ (fun x hx => by simp only [Option.some.injEq] at hx; subst hx; exact (hG.tys _ _ ht).zc) h
      · exact h.elim
    · rename_i ho; simp [opKind, ho] at hk
    · rename_i ho; simp [opKind, ho] at hk
    · rename_i ho; simp [opKind, ho] at hk
    · rename_i f xs ts ho
      simp only [opKind, ho] at hk
      split at hk
      · cases hk
      · split at hk <;> cases hk
    · rename_i ho; simp [opKind, ho] at hk
    · rename_i h1 h2 h3 h4 h5 h6
      exfalso
      revert hk
      cases hop : o.op <;> simp [opKind, newOp]
      · exact h1 _ hop
      · rename_i cl
        obtain ⟨callee, xs, ts⟩ := cl
        cases callee with
        | value f => cases f <;> simp; exact absurd hop (h5 _ _ _)
        | builtin b => cases b <;> simp
        | _ => simp
  · exact hkk0 _ h
  · exact h.elim

/-- Two operations that do not look at one another, the second first. -/
theorem swap (hG : CfgOk G) {oi oj : Oper} (hap : oi.apart ops oj = true) (hk : compat (opKind G oi.op) (opKind G oj.op) = true) {e : Env} {m : Mem} {K : TV → TV → Mem → Prop}
    (h : aSt G ops oi e m fun vi m1 => aSt G ops oj (putE oi.dst vi e) m1 fun vj m2 => K vi vj m2) :
    aSt G ops oj e m fun vj m1 => aSt G ops oi (putE oj.dst vj e) m1 fun vi m2 => K vi vj m2 := by
  obtain ⟨h1, h2, h3⟩ := Oper.apart_spec hap
  have put_same : ∀ {x : Oper} {l : List Tmp} {v : TV}, (∀ d, x.dst = some d → d ∉ l) → SameAt l (putE x.dst v e) e := by
    intro x l v hx t ht
    cases hd : x.dst with
    | none => rfl
    | some d =>
      simp only [putE, get]
      have : Nat.beq d t = false := by
        cases hb : Nat.beq d t with
        | false => rfl
        | true => exact absurd ht (by have := Nat.eq_of_beq_eq_true hb; subst this; exact hx d hd)
      rw [this]
  have h' : aSt G ops oi e m fun vi m1 => aSt G ops oj e m1 fun vj m2 => K vi vj m2 := aSt_mono (fun vi m1 hh => aSt_same (put_same h1) hh) h
  refine aSt_mono (fun vj m1 (hh : aSt G ops oi e m1 fun vi m2 => K vi vj m2) => aSt_same (fun t ht => (put_same h3 t ht).symm) hh) ?_
  have k3 : ∀ o : Op, opKind G o = 0 ∨ opKind G o = 1 ∨ opKind G o = 2 ∨ opKind G o = 3 := by
    intro o
    have : opKind G o ≤ 3 := by
      unfold opKind
      repeat' split
      all_goals omega
    omega
  have second0 : opKind G oj.op = 0 → aSt G ops oj e m fun vj m1 => aSt G ops oi e m1 fun vi m2 => K vi vj m2 := fun kj => by
    obtain ⟨vi, m1, hh⟩ := aSt_strict hG h'
    obtain ⟨vj, hv, _⟩ := aSt_kind0 kj hh
    refine aSt_of_kind0 kj hv (aSt_mono (fun vi m1 hh => ?_) h')
    obtain ⟨vj', hv', hK⟩ := aSt_kind0 kj hh
    rw [hv] at hv'
    simp only [Option.some.injEq] at hv'
    subst hv'; exact hK
  rcases k3 oi.op with ki | ki | ki | ki
  · obtain ⟨vi, hv, hK⟩ := aSt_kind0 ki h'
    exact aSt_mono (fun vj m1 hh => aSt_of_kind0 ki hv hh) hK
  · rcases k3 oj.op with kj | kj | kj | kj
    · exact second0 kj
    · obtain ⟨vi, hi, hh⟩ := aSt_kind1 hG ki h'
      obtain ⟨vj, hj, hK⟩ := aSt_kind1 hG kj hh
      refine aSt_mono (fun v' m' e' => ?_) hj
      obtain ⟨rfl, rfl⟩ := e'
      refine aSt_mono (fun v'' m'' e'' => ?_) hi
      obtain ⟨rfl, rfl⟩ := e''
      exact hK
    · rw [ki, kj] at hk; cases hk
    · obtain ⟨vi, hi, hh⟩ := aSt_kind1 hG ki h'
      exact aSt_alloc hG kj (fun v hK => aSt_mono (fun v' m' e' => by obtain ⟨rfl, rfl⟩ := e'; exact hK) hi)
        (fun z v hz hK => aSt_mono (fun v' m' e' => by obtain ⟨rfl, rfl⟩ := e'; exact hK) (aSt_ext (z := z) hz ki hi)) hh
  · rcases k3 oj.op with kj | kj | kj | kj
    · exact second0 kj
    · rw [ki, kj] at hk; cases hk
    · rw [ki, kj] at hk; cases hk
    · rw [ki, kj] at hk; cases hk
  · rcases k3 oj.op with kj | kj | kj | kj
    · exact second0 kj
    · rw [ki, kj] at hk; cases hk
    · rw [ki, kj] at hk; cases hk
    · rw [ki, kj] at hk; cases hk

/-- Operation number i comes up. -/
def aAt (G : Cfg) (ops : Array Oper) (i : Nat) (K : Env → Mem → Prop) (e : Env) (m : Mem) : Prop :=
  match ops[i]? with
  | none => K e m
  | some o => aSt G ops o e m fun v m' => K (putE o.dst v e) m'

/-- Whatever order is picked. -/
def aAny (G : Cfg) (ops : Array Oper) (K : Env → Mem → Prop) : Nat → Array Bool → Env → Mem → Prop
  | 0, listed, e, m => Region.ready .any ops listed = [] ∧ K e m
  | f + 1, listed, e, m => (Region.ready .any ops listed = [] → K e m) ∧ ∀ i ∈ Region.ready .any ops listed, aAt G ops i (aAny G ops K f (listed.setIfInBounds i true)) e m

theorem EnvEq.put {e e' : Env} (h : EnvEq e e') (d : Option Tmp) (v : TV) : EnvEq (putE d v e) (putE d v e') := by
  cases d with
  | none => exact h
  | some t =>
    intro s
    simp only [putE, get]
    split
    · rfl
    · exact h s

theorem aAny_resp {K : Env → Mem → Prop} (hK : ∀ e e' m, EnvEq e e' → K e m → K e' m) : ∀ (f : Nat) (listed : Array Bool) (e e' : Env) (m : Mem), EnvEq e e' → aAny G ops K f listed e m → aAny G ops K f listed e' m
  | 0, listed, e, e', m, he, h => ⟨h.1, hK _ _ _ he h.2⟩
  | f + 1, listed, e, e', m, he, h => by
    refine ⟨fun h0 => hK _ _ _ he (h.1 h0), fun i hi => ?_⟩
    have hh := h.2 i hi
    unfold aAt at *
    split at hh
    · exact aAny_resp hK f _ _ _ _ he hh
    · rename_i o ho
      exact aSt_same (fun t _ => he t) (aSt_mono (fun v m' hx => aAny_resp hK f _ _ _ _ (he.put o.dst v) hx) hh)

theorem put_comm {x y : Option Tmp} (h : ∀ d, x = some d → y ≠ some d) (v u : TV) (e : Env) : EnvEq (putE x v (putE y u e)) (putE y u (putE x v e)) := by
  intro s
  cases x with
  | none => rfl
  | some d =>
    cases y with
    | none => rfl
    | some d' =>
      have hne : d ≠ d' := fun e => h d rfl (by rw [e])
      simp only [putE, get]
      cases h1 : Nat.beq d s with
      | false => rfl
      | true =>
        have h1 := Nat.eq_of_beq_eq_true h1
        have h2 : Nat.beq d' s = false := by
          cases h2 : Nat.beq d' s with
          | false => rfl
          | true => exact absurd (h1.trans (Nat.eq_of_beq_eq_true h2).symm) hne
        simp [h2]

theorem aAny_first (hG : CfgOk G) {K : Env → Mem → Prop} (hK : ∀ e e' m, EnvEq e e' → K e m → K e' m) {i : Nat} {oi : Oper} (hi : ops[i]? = some oi) (A : Nat → Bool)
    (hA : ∀ j oj, ops[j]? = some oj → A j = true → ∃ d ∈ oj.after, Region.binds .any d = true ∧ (d.on = i ∨ A d.on = true)) :
    ∀ (f : Nat) (listed : Array Bool) (e : Env) (m : Mem), (∀ j, A j = true → listed.getD j true = false) →
      (∀ j oj, ops[j]? = some oj → j ≠ i → listed.getD j true = false → A j = false → oi.apart ops oj = true ∧ compat (opKind G oi.op) (opKind G oj.op) = true) →
      i ∈ Region.ready .any ops listed → aSt G ops oi e m (fun v m' => aAny G ops K f (listed.setIfInBounds i true) (putE oi.dst v e) m') → aAny G ops K (f + 1) listed e m := by
  intro f
  induction f with
  | zero =>
    intro listed e m _ _ hr H
    refine ⟨fun h => (by rw [h] at hr; cases hr), fun j hj => ?_⟩
    by_cases hji : j = i
    · subst hji; unfold aAt; simp only [hi]; exact H
    · have := ready_mono hj hji
      obtain ⟨v, m', hh⟩ := aSt_strict hG H
      rw [hh.1] at this
      cases this
  | succ f ih =>
    intro listed e m hlist hfree hr H
    refine ⟨fun h => (by rw [h] at hr; cases hr), fun j hj => ?_⟩
    by_cases hji : j = i
    · subst hji; unfold aAt; simp only [hi]; exact H
    · obtain ⟨hjun, oj, hoj, hall⟩ := mem_ready.1 hj
      have unl : ∀ k, listed.getD k true = false → listed.getD k false = true → False := fun k h0 h1 => by
        rcases Nat.lt_or_ge k listed.size with h' | h'
        · simp [h'] at h0 h1; rw [h0] at h1; cases h1
        · simp [Array.getElem?_eq_none h'] at h1
      have hnot : A j = false := by
        cases hAj : A j with
        | false => rfl
        | true =>
          obtain ⟨d, hd, hb, hon⟩ := hA j oj hoj hAj
          have h1 := hall d hd hb
          rcases hon with heq | heq
          · rw [heq] at h1
            exact (unl i (mem_ready.1 hr).1 h1).elim
          · exact (unl d.on (hlist d.on heq) h1).elim
      obtain ⟨hap, hco⟩ := hfree j oj hoj hji hjun hnot
      have h1 : aSt G ops oi e m fun vi m1 => aSt G ops oj (putE oi.dst vi e) m1 fun vj m2 => aAny G ops K f ((listed.setIfInBounds i true).setIfInBounds j true) (putE oj.dst vj (putE oi.dst vi e)) m2 :=
        aSt_mono (fun v m' hh => by
          have := hh.2 j (ready_mono hj hji)
          unfold aAt at this
          simpa only [hoj] using this) H
      have h2 := swap hG hap hco h1
      unfold aAt
      simp only [hoj]
      refine aSt_mono (fun vj m1 hh => ?_) h2
      refine ih (listed.setIfInBounds j true) (putE oj.dst vj e) m1 (fun k hk => ?_) (fun k ok hk hki hun hno => ?_) (ready_mono hr (Ne.symm hji)) (aSt_mono (fun vi m2 hh' => ?_) hh)
      · have hjk : ¬ j = k := fun h => by rw [← h, hnot] at hk; cases hk
        rw [getD_set_ne true hjk]
        exact hlist k hk
      · refine hfree k ok hk hki ?_ hno
        by_cases hjk : j = k
        · subst hjk; exact hjun
        · rw [getD_set_ne true hjk] at hun; exact hun
      · rw [Array.setIfInBounds_comm _ _ (Ne.symm hji)] at hh'
        exact aAny_resp hK f _ _ _ _ (put_comm (fun d hd hd' => (Oper.apart_spec hap).2.1 d hd' hd) vj vi e) hh'

theorem freeK_spec {i : Nat} {oi : Oper} {listed : Array Bool} (hi : ops[i]? = some oi) (h : freeK G ops listed i = true) : ∃ A : Nat → Bool,
    (∀ j oj, ops[j]? = some oj → A j = true → ∃ d ∈ oj.after, Region.binds .any d = true ∧ (d.on = i ∨ A d.on = true)) ∧ (∀ j, A j = true → listed.getD j true = false) ∧
    (∀ j oj, ops[j]? = some oj → j ≠ i → listed.getD j true = false → A j = false → oi.apart ops oj = true ∧ compat (opKind G oi.op) (opKind G oj.op) = true) := by
  simp only [freeK, hi, freeA, List.all_eq_true, List.mem_range] at h
  generalize behind i ops.toList 0 0 = M at h
  refine ⟨fun j => Nat.blt j ops.size && M.testBit j, fun j oj hj hAj => ?_, fun j hAj => ?_, fun j oj hj hne hun hAj => ?_⟩
  · simp only [Bool.and_eq_true] at hAj
    have h1 := h j (Array.getElem?_eq_some_iff.1 hj).1
    simp only [hAj.2, hj, Bool.and_eq_true] at h1
    obtain ⟨d, hd, hb⟩ := Array.any_eq_true'.1 h1.2
    simp only [Bool.and_eq_true, Bool.or_eq_true] at hb
    refine ⟨d, hd, hb.1, ?_⟩
    rcases hb.2 with hb | hb
    · exact .inl (Nat.eq_of_beq_eq_true hb)
    · exact .inr (by simpa using hb)
  · simp only [Bool.and_eq_true] at hAj
    have h1 := h j (by simpa using hAj.1)
    simp only [hAj.2, Bool.and_eq_true, beq_iff_eq] at h1
    exact h1.1
  · have hlt := (Array.getElem?_eq_some_iff.1 hj).1
    have hb : Nat.blt j ops.size = true := by simpa using hlt
    have hM : M.testBit j = false := by simpa [hb] using hAj
    have h1 := h j hlt
    simp only [hM, hj, Bool.or_eq_true, beq_iff_eq, hne, false_or, hun, Bool.false_eq_true] at h1
    simpa using h1

theorem aAny_lex (hG : CfgOk G) {K : Env → Mem → Prop} (hK : ∀ e e' m, EnvEq e e' → K e m → K e' m) : ∀ (l : List Oper) (k : Nat) (listed : Array Bool) (e : Env) (m : Mem), (∀ j, l[j]? = ops[k + j]?) →
    lexK G ops l.length k listed = true → aops G ops.toList l e m K → aAny G ops K l.length listed e m
  | [], _, _, _, _, _, hB, h => ⟨by simpa [lexK] using hB, h⟩
  | o :: l, k, listed, e, m, hl, hB, h => by
    have h0 : ops[k]? = some o := by simpa using (hl 0).symm
    simp only [List.length_cons, lexK, Bool.and_eq_true] at hB
    obtain ⟨⟨hr, hf⟩, hB'⟩ := hB
    have hl' : ∀ j, l[j]? = ops[k + 1 + j]? := fun j => by have := hl (j + 1); simpa [Nat.add_assoc, Nat.add_comm 1 j] using this
    obtain ⟨A, hA, h1, h2⟩ := freeK_spec h0 hf
    refine aAny_first hG hK h0 A hA l.length listed e m h1 h2 (by simpa using hr) ?_
    unfold aSt
    simp only [aops] at h
    split at h
    · rename_i hw; simp only [hw]; exact aop_mono (fun v m' hh => aAny_lex hG hK l (k + 1) _ _ _ hl' hB' hh) h
    · rename_i hw; simp only [hw]; exact aAny_lex hG hK l (k + 1) _ _ _ hl' hB' h
    · exact h.elim

end
end Go.Ev
