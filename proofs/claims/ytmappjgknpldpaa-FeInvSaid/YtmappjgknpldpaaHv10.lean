import Derived.Test.YtmappjgknpldpaaHv9
namespace Go.Hv
open Go.Ev
section
variable {G : Cfg} {ops : Array Oper}

theorem aop_kind4_ext {o : Oper} {e : Env} {m : HM} {x : Option Blk} {K K' : TV → HM → Prop} (hk : opKind G o.op = 4) (hkk : ∀ v N1, K v ⟨m.bs, N1⟩ → K' v ⟨m.bs ++ [x], N1⟩) (h : aop G o e m K) : aop G o e ⟨m.bs ++ [x], m.N⟩ K' := by
  unfold opKind at hk
  split at hk
  · cases hk
  · cases hk
  · cases hk
  · cases hk
  · cases hk
  · rename_i f xs ts ho
    simp only [aop_call ho] at h ⊢
    split at h
    · unfold acall at *
      split at hk
      · cases hk
      · rename_i hp
        simp only [hp] at h ⊢
        split at hk
        · cases hk
        · rename_i hkd
          simp only [hkd] at h ⊢
          obtain ⟨K0, h1, h2, h3⟩ := h
          refine ⟨K0, fun c B hB hL => h1 c B hB (fun b y hy => hL b y (by rw [nth_append_lt (nth_lt hy)]; exact hy)), h2, fun v N' hc hv N1 hN => hkk _ _ (h3 v N' hc hv N1 hN)⟩
        · cases hk
        · cases hk
    · exact h
  · cases hk
  · cases hk
  · rename_i s d y ho
    split at hk
    · cases hk
    · rename_i h1 h2
      simp only [aop_conv ho ⟨_, h2, fun k e => by cases e⟩] at h ⊢
      split at h
      · unfold aconv at *
        split at h
        · rename_i h3 h4; rw [h1] at h3; cases h3
        · split at h
          · exact ⟨h.1, fun a cap N1 g1 g2 g3 g4 g5 => hkk _ _ (h.2 a cap N1 g1 g2 g3 g4 g5)⟩
          · exact h
        · exact h
      · exact h
    · cases hk
  · split at hk <;> cases hk

/-- One operation with its guard. -/
def aSt (G : Cfg) (ops : Array Oper) (o : Oper) (e : Env) (m : HM) (K : TV → HM → Prop) : Prop :=
  match wantedA ops.toList o.guard e with
  | some true => aop G o e m K
  | some false => K (.tup []) m
  | none => False

theorem wantedA_same {o : Oper} {e e' : Env} (h : SameAt (o.looksAt ops) e e') : wantedA ops.toList o.guard e = wantedA ops.toList o.guard e' := by
  unfold wantedA
  cases hg : o.guard with
  | none => rfl
  | some gw =>
    obtain ⟨j, want⟩ := gw
    simp only
    cases ho : ops.toList[j]? with
    | none => rfl
    | some oj =>
      simp only
      cases hd : oj.dst with
      | none => rfl
      | some t =>
        simp only
        have : t ∈ o.looksAt ops := by
          unfold Oper.looksAt
          rw [hg]
          have : ops[j]? = some oj := by simpa using ho
          simp [this, hd]
        rw [h t this]

theorem operands_same {o : Oper} {e e' : Env} (h : SameAt (o.looksAt ops) e e') : ∀ x ∈ o.op.operands.toList, opv e x = opv e' x := fun x hx =>
  opv_same fun t ht => h t (by
    unfold Oper.looksAt
    exact List.mem_append_left _ (List.mem_filterMap.2 ⟨x, hx, by rw [ht]⟩))

theorem aSt_same {o : Oper} {e e' : Env} {m : HM} {K : TV → HM → Prop} (h : SameAt (o.looksAt ops) e e') (hh : aSt G ops o e m K) : aSt G ops o e' m K := by
  unfold aSt at *
  rw [← wantedA_same h]
  split at hh
  · exact aop_same (operands_same h) hh
  · exact hh
  · exact hh

theorem aSt_mono {o : Oper} {e : Env} {m : HM} {K K' : TV → HM → Prop} (hk : ∀ v m, K v m → K' v m) (h : aSt G ops o e m K) : aSt G ops o e m K' := by
  unfold aSt at *
  split at h
  · exact aop_mono hk h
  · exact hk _ _ h
  · exact h

theorem aSt_strict (hG : CfgOk G) {o : Oper} {e : Env} {m : HM} {K : TV → HM → Prop} (h : aSt G ops o e m K) : ∃ v m', K v m' := by
  unfold aSt at h
  split at h
  · exact aop_strict hG h
  · exact ⟨_, _, h⟩
  · exact h.elim

def pv0 (G : Cfg) (ops : Array Oper) (o : Oper) (e : Env) : Option TV :=
  match wantedA ops.toList o.guard e with
  | some true => pvalH G.T o.op e
  | some false => some (.tup [])
  | none => none

theorem aSt_kind0 {o : Oper} {e : Env} {m : HM} {K : TV → HM → Prop} (hk : opKind G o.op = 0) (h : aSt G ops o e m K) : ∃ v, pv0 G ops o e = some v ∧ K v m := by
  unfold aSt at h
  unfold pv0
  split at h
  · exact aop_kind0 hk h
  · exact ⟨_, rfl, h⟩
  · exact h.elim

theorem aSt_of_kind0 {o : Oper} {e : Env} {m : HM} {K : TV → HM → Prop} (hk : opKind G o.op = 0) {v : TV} (hv : pv0 G ops o e = some v) (h : K v m) : aSt G ops o e m K := by
  unfold aSt
  unfold pv0 at hv
  split at hv
  · rename_i hw; exact aop_of_kind0 hk hv h
  · rename_i hw
    simp only [Option.some.injEq] at hv
    subst hv; exact h
  · cases hv

theorem aSt_kind1 (hG : CfgOk G) {o : Oper} {e : Env} {m : HM} {K : TV → HM → Prop} (hk : opKind G o.op = 1) (h : aSt G ops o e m K) : ∃ v, (∀ m1, Grow m m1 → aSt G ops o e m1 (fun v' m' => v' = v ∧ m' = m1)) ∧ K v m := by
  unfold aSt at *
  split at h
  · exact aop_kind1 hG hk h
  · exact ⟨_, fun _ _ => ⟨rfl, rfl⟩, h⟩
  · exact h.elim

theorem Grow.refl (m : HM) : Grow m m := ⟨fun _ _ h => h, fun _ _ h => h⟩

theorem aSt_grow {o : Oper} {e : Env} {m : HM} {K K' : TV → HM → Prop} (hk : opKind G o.op = 3 ∨ opKind G o.op = 4 ∨ opKind G o.op = 5) (hkk : ∀ v m1, Grow m m1 → K v m1 → K' v m1) (h : aSt G ops o e m K) : aSt G ops o e m K' := by
  unfold aSt at *
  split at h
  · exact aop_grow hk hkk h
  · exact hkk _ _ (Grow.refl m) h
  · exact h.elim

theorem aSt_kind4_ext {o : Oper} {e : Env} {m : HM} {x : Option Blk} {K K' : TV → HM → Prop} (hk : opKind G o.op = 4) (hkk : ∀ v N1, K v ⟨m.bs, N1⟩ → K' v ⟨m.bs ++ [x], N1⟩) (h : aSt G ops o e m K) : aSt G ops o e ⟨m.bs ++ [x], m.N⟩ K' := by
  unfold aSt at *
  split at h
  · exact aop_kind4_ext hk hkk h
  · exact hkk _ _ h
  · exact h.elim

/-- Two operations that do not look at one another, the second first. -/
theorem swap (hG : CfgOk G) {oi oj : Oper} (hap : oi.apart ops oj = true) (hk : compat (opKind G oi.op) (opKind G oj.op) = true) {e : Env} {m : HM} {K : TV → TV → HM → Prop}
    (h : aSt G ops oi e m fun vi m1 => aSt G ops oj (putE oi.dst vi e) m1 fun vj m2 => K vi vj m2) :
    aSt G ops oj e m fun vj m1 => aSt G ops oi (putE oj.dst vj e) m1 fun vi m2 => K vi vj m2 := by
  obtain ⟨h1, h2, h3⟩ := Oper.apart_spec hap
  have put_same : ∀ {x : Oper} {l : List Tmp} {v : TV}, (∀ d, x.dst = some d → d ∉ l) → SameAt l (putE x.dst v e) e := by
    intro x l v hx t ht
    cases hd : x.dst with
    | none => rfl
    | some d =>
      simp only [putE, Ev.get]
      have : Nat.beq d t = false := by
        cases hb : Nat.beq d t with
        | false => rfl
        | true => exact absurd ht (by have := Nat.eq_of_beq_eq_true hb; subst this; exact hx d hd)
      rw [this]
  have h' : aSt G ops oi e m fun vi m1 => aSt G ops oj e m1 fun vj m2 => K vi vj m2 := aSt_mono (fun vi m1 hh => aSt_same (put_same h1) hh) h
  refine aSt_mono (fun vj m1 (hh : aSt G ops oi e m1 fun vi m2 => K vi vj m2) => aSt_same (fun t ht => (put_same h3 t ht).symm) hh) ?_
  have second0 : opKind G oj.op = 0 → aSt G ops oj e m fun vj m1 => aSt G ops oi e m1 fun vi m2 => K vi vj m2 := fun kj => by
    obtain ⟨vi, m1, hh⟩ := aSt_strict hG h'
    obtain ⟨vj, hv, _⟩ := aSt_kind0 kj hh
    refine aSt_of_kind0 kj hv (aSt_mono (fun vi m1 hh => ?_) h')
    obtain ⟨vj', hv', hK⟩ := aSt_kind0 kj hh
    rw [hv] at hv'
    simp only [Option.some.injEq] at hv'
    subst hv'; exact hK
  have grows : opKind G oi.op = 1 → (opKind G oj.op = 3 ∨ opKind G oj.op = 4 ∨ opKind G oj.op = 5) → aSt G ops oj e m fun vj m1 => aSt G ops oi e m1 fun vi m2 => K vi vj m2 := fun ki kj => by
    obtain ⟨vi, hi, hh⟩ := aSt_kind1 hG ki h'
    exact aSt_grow kj (fun v m1 hg hK => aSt_mono (fun v' m' e' => by obtain ⟨rfl, rfl⟩ := e'; exact hK) (hi m1 hg)) hh
  generalize hki : opKind G oi.op = ki at hk grows
  generalize hkj : opKind G oj.op = kj at hk grows second0
  unfold compat at hk
  split at hk
  · obtain ⟨vi, hv, hK⟩ := aSt_kind0 hki h'
    exact aSt_mono (fun vj m1 hh => aSt_of_kind0 hki hv hh) hK
  · exact second0 rfl
  · obtain ⟨vi, hi, hh⟩ := aSt_kind1 hG hki h'
    obtain ⟨vj, hj, hK⟩ := aSt_kind1 hG hkj hh
    refine aSt_mono (fun v' m' e' => ?_) (hj m (Grow.refl m))
    obtain ⟨rfl, rfl⟩ := e'
    refine aSt_mono (fun v'' m'' e'' => ?_) (hi m' (Grow.refl m'))
    obtain ⟨rfl, rfl⟩ := e''
    exact hK
  · exact grows rfl (.inl rfl)
  · exact grows rfl (.inr (.inl rfl))
  · exact grows rfl (.inr (.inr rfl))
  · have one : ∀ (m1 : HM) (K1 : TV → HM → Prop), aSt G ops oj e m1 K1 = match wantedA ops.toList oj.guard e with
        | some true => (match allocV G oj e m1.bs.length with
          | some (v, x) => K1 v ⟨m1.bs ++ [some x], m1.N⟩
          | none => False)
        | some false => K1 (.tup []) m1
        | none => False := fun m1 K1 => by
      unfold aSt
      cases hw : wantedA ops.toList oj.guard e with
      | none => rfl
      | some b => cases b with
        | true => exact aop_kind3 hkj m1 K1
        | false => rfl
    simp only [one] at h' ⊢
    cases hw : wantedA ops.toList oj.guard e with
    | none =>
      simp only [hw] at h'
      obtain ⟨_, _, hh⟩ := aSt_strict hG h'
      exact hh.elim
    | some b =>
      cases b with
      | false => simp only [hw] at h' ⊢; exact h'
      | true =>
        simp only [hw] at h' ⊢
        cases hal : allocV G oj e m.bs.length with
        | none =>
          exfalso
          have := aSt_kind4_ext (x := none) (K' := fun _ _ => False) hki (fun v N1 hh => by simp only [hal] at hh) h'
          obtain ⟨_, _, hh⟩ := aSt_strict hG this
          exact hh
        | some vx =>
          obtain ⟨v, x⟩ := vx
          exact aSt_kind4_ext hki (fun v' N1 hh => by simpa only [hal] using hh) h'
  · cases hk

/-- Operation number i comes up. -/
def aAt (G : Cfg) (ops : Array Oper) (i : Nat) (K : Env → HM → Prop) (e : Env) (m : HM) : Prop :=
  match ops[i]? with
  | none => K e m
  | some o => aSt G ops o e m fun v m' => K (putE o.dst v e) m'

/-- Whatever order is picked. -/
def aAny (G : Cfg) (ops : Array Oper) (K : Env → HM → Prop) : Nat → Array Bool → Env → HM → Prop
  | 0, listed, e, m => Region.ready .any ops listed = [] ∧ K e m
  | f + 1, listed, e, m => (Region.ready .any ops listed = [] → K e m) ∧ ∀ i ∈ Region.ready .any ops listed, aAt G ops i (aAny G ops K f (listed.setIfInBounds i true)) e m

theorem EnvEq.put {e e' : Env} (h : EnvEq e e') (d : Option Tmp) (v : TV) : EnvEq (putE d v e) (putE d v e') := by
  cases d with
  | none => exact h
  | some t =>
    intro s
    simp only [putE, Ev.get]
    split
    · rfl
    · exact h s

theorem aAny_resp {K : Env → HM → Prop} (hK : ∀ e e' m, EnvEq e e' → K e m → K e' m) : ∀ (f : Nat) (listed : Array Bool) (e e' : Env) (m : HM), EnvEq e e' → aAny G ops K f listed e m → aAny G ops K f listed e' m
  | 0, listed, e, e', m, he, h => ⟨h.1, hK _ _ _ he h.2⟩
  | f + 1, listed, e, e', m, he, h => by
    refine ⟨fun h0 => hK _ _ _ he (h.1 h0), fun i hi => ?_⟩
    have hh := h.2 i hi
    unfold aAt at *
    split at hh
    · exact aAny_resp hK f _ _ _ _ he hh
    · rename_i o ho
      exact aSt_same (fun t _ => he t) (aSt_mono (fun v m' hx => aAny_resp hK f _ _ _ _ (he.put o.dst v) hx) hh)

theorem put_comm {x y : Option Tmp} (h : ∀ d, x = some d → y ≠ some d) (v u : TV) (e : Env) : EnvEq (putE x v (putE y u e)) (putE y u (putE x v e)) := by
  intro s
  cases x with
  | none => rfl
  | some d =>
    cases y with
    | none => rfl
    | some d' =>
      have hne : d ≠ d' := fun e => h d rfl (by rw [e])
      simp only [putE, Ev.get]
      cases h1 : Nat.beq d s with
      | false => rfl
      | true =>
        have h1 := Nat.eq_of_beq_eq_true h1
        have h2 : Nat.beq d' s = false := by
          cases h2 : Nat.beq d' s with
          | false => rfl
          | true => exact absurd (h1.trans (Nat.eq_of_beq_eq_true h2).symm) hne
        simp [h2]

theorem aAny_first (hG : CfgOk G) {K : Env → HM → Prop} (hK : ∀ e e' m, EnvEq e e' → K e m → K e' m) {i : Nat} {oi : Oper} (hi : ops[i]? = some oi) (A : Nat → Bool)
    (hA : ∀ j oj, ops[j]? = some oj → A j = true → ∃ d ∈ oj.after, Region.binds .any d = true ∧ (d.on = i ∨ A d.on = true)) :
    ∀ (f : Nat) (listed : Array Bool) (e : Env) (m : HM), (∀ j, A j = true → listed.getD j true = false) →
      (∀ j oj, ops[j]? = some oj → j ≠ i → listed.getD j true = false → A j = false → oi.apart ops oj = true ∧ compat (opKind G oi.op) (opKind G oj.op) = true) →
      i ∈ Region.ready .any ops listed → aSt G ops oi e m (fun v m' => aAny G ops K f (listed.setIfInBounds i true) (putE oi.dst v e) m') → aAny G ops K (f + 1) listed e m := by
  intro f
  induction f with
  | zero =>
    intro listed e m _ _ hr H
    refine ⟨fun h => (by rw [h] at hr; cases hr), fun j hj => ?_⟩
    by_cases hji : j = i
    · subst hji; unfold aAt; simp only [hi]; exact H
    · have := ready_mono hj hji
      obtain ⟨v, m', hh⟩ := aSt_strict hG H
      rw [hh.1] at this
      cases this
  | succ f ih =>
    intro listed e m hlist hfree hr H
    refine ⟨fun h => (by rw [h] at hr; cases hr), fun j hj => ?_⟩
    by_cases hji : j = i
    · subst hji; unfold aAt; simp only [hi]; exact H
    · obtain ⟨hjun, oj, hoj, hall⟩ := mem_ready.1 hj
      have unl : ∀ k, listed.getD k true = false → listed.getD k false = true → False := fun k h0 h1 => by
        rcases Nat.lt_or_ge k listed.size with h' | h'
        · simp [h'] at h0 h1; rw [h0] at h1; cases h1
        · simp [Array.getElem?_eq_none h'] at h1
      have hnot : A j = false := by
        cases hAj : A j with
        | false => rfl
        | true =>
          obtain ⟨d, hd, hb, hon⟩ := hA j oj hoj hAj
          have h1 := hall d hd hb
          rcases hon with heq | heq
          · rw [heq] at h1
            exact (unl i (mem_ready.1 hr).1 h1).elim
          · exact (unl d.on (hlist d.on heq) h1).elim
      obtain ⟨hap, hco⟩ := hfree j oj hoj hji hjun hnot
      have h1 : aSt G ops oi e m fun vi m1 => aSt G ops oj (putE oi.dst vi e) m1 fun vj m2 => aAny G ops K f ((listed.setIfInBounds i true).setIfInBounds j true) (putE oj.dst vj (putE oi.dst vi e)) m2 :=
        aSt_mono (fun v m' hh => by
          have := hh.2 j (ready_mono hj hji)
          unfold aAt at this
          simpa only [hoj] using this) H
      have h2 := swap hG hap hco h1
      unfold aAt
      simp only [hoj]
      refine aSt_mono (fun vj m1 hh => ?_) h2
      refine ih (listed.setIfInBounds j true) (putE oj.dst vj e) m1 (fun k hk => ?_) (fun k ok hk hki hun hno => ?_) (ready_mono hr (Ne.symm hji)) (aSt_mono (fun vi m2 hh' => ?_) hh)
      · have hjk : ¬ j = k := fun h => by rw [← h, hnot] at hk; cases hk
        rw [getD_set_ne true hjk]
        exact hlist k hk
      · refine hfree k ok hk hki ?_ hno
        by_cases hjk : j = k
        · subst hjk; exact hjun
        · rw [getD_set_ne true hjk] at hun; exact hun
      · rw [Array.setIfInBounds_comm _ _ (Ne.symm hji)] at hh'
        exact aAny_resp hK f _ _ _ _ (put_comm (fun d hd hd' => (Oper.apart_spec hap).2.1 d hd' hd) vj vi e) hh'

theorem freeK_spec {i : Nat} {oi : Oper} {listed : Array Bool} (hi : ops[i]? = some oi) (h : freeK G ops listed i = true) : ∃ A : Nat → Bool,
    (∀ j oj, ops[j]? = some oj → A j = true → ∃ d ∈ oj.after, Region.binds .any d = true ∧ (d.on = i ∨ A d.on = true)) ∧ (∀ j, A j = true → listed.getD j true = false) ∧
    (∀ j oj, ops[j]? = some oj → j ≠ i → listed.getD j true = false → A j = false → oi.apart ops oj = true ∧ compat (opKind G oi.op) (opKind G oj.op) = true) := by
  simp only [freeK, hi, freeA, List.all_eq_true, List.mem_range] at h
  generalize behind i ops.toList 0 0 = M at h
  refine ⟨fun j => Nat.blt j ops.size && M.testBit j, fun j oj hj hAj => ?_, fun j hAj => ?_, fun j oj hj hne hun hAj => ?_⟩
  · simp only [Bool.and_eq_true] at hAj
    have h1 := h j (Array.getElem?_eq_some_iff.1 hj).1
    simp only [hAj.2, hj, Bool.and_eq_true] at h1
    obtain ⟨d, hd, hb⟩ := Array.any_eq_true'.1 h1.2
    simp only [Bool.and_eq_true, Bool.or_eq_true] at hb
    refine ⟨d, hd, hb.1, ?_⟩
    rcases hb.2 with hb | hb
    · exact .inl (Nat.eq_of_beq_eq_true hb)
    · exact .inr (by simpa using hb)
  · simp only [Bool.and_eq_true] at hAj
    have h1 := h j (by simpa using hAj.1)
    simp only [hAj.2, Bool.and_eq_true, beq_iff_eq] at h1
    exact h1.1
  · have hlt := (Array.getElem?_eq_some_iff.1 hj).1
    have hb : Nat.blt j ops.size = true := by simpa using hlt
    have hM : M.testBit j = false := by simpa [hb] using hAj
    have h1 := h j hlt
    simp only [hM, hj, Bool.or_eq_true, beq_iff_eq, hne, false_or, hun, Bool.false_eq_true] at h1
    simpa using h1

theorem aAny_lex (hG : CfgOk G) {K : Env → HM → Prop} (hK : ∀ e e' m, EnvEq e e' → K e m → K e' m) : ∀ (l : List Nat) (listed : Array Bool) (e : Env) (m : HM),
    lexK G ops l listed = true → aopsL G ops.toList (pickL ops.toList l) e m K → aAny G ops K l.length listed e m
  | [], _, _, _, hB, h => ⟨by simpa [lexK] using hB, h⟩
  | k :: l, listed, e, m, hB, h => by
    simp only [lexK, Bool.and_eq_true] at hB
    obtain ⟨⟨hr, hf⟩, hB'⟩ := hB
    obtain ⟨o, h0⟩ : ∃ o, ops[k]? = some o := by
      unfold freeK at hf
      split at hf
      · cases hf
      · rename_i o ho; exact ⟨o, ho⟩
    have h0' : ops.toList[k]? = some o := by simpa using h0
    obtain ⟨A, hA, h1, h2⟩ := freeK_spec h0 hf
    refine aAny_first hG hK h0 A hA l.length listed e m h1 h2 (by simpa using hr) ?_
    unfold aSt
    simp only [pickL, h0', aopsL] at h
    split at h
    · rename_i hw; simp only [hw]; exact aop_mono (fun v m' hh => aAny_lex hG hK l _ _ _ hB' hh) h
    · rename_i hw; simp only [hw]; exact aAny_lex hG hK l _ _ _ hB' h
    · exact h.elim

theorem pickL_range (l : List Oper) : ∀ (k n : Nat), k + n = l.length → pickL l (List.range' k n) = l.drop k
  | k, 0, h => by simp [pickL, List.drop_eq_nil_of_le (show l.length ≤ k by omega)]
  | k, n + 1, h => by
    have hk : k < l.length := by omega
    rw [List.range'_succ, pickL, List.getElem?_eq_getElem hk]
    simp only
    rw [pickL_range l (k + 1) n (by omega)]
    exact (List.drop_eq_getElem_cons hk).symm

end
end Go.Hv
