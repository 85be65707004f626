import Derived.Test.YtmappjgknpldpaaHv3
namespace Go.Hv
open Go.Ev

/-- A function's primitive does what the walk takes of it. -/
def PrimOk (P : Program) (f : FuncId) (p : Prim) : Prop := ∀ W0 : World, Ev.PrimOk P W0 f p

structure CfgOk (G : Cfg) : Prop where
  tys : TysOk G.P G.T
  prim : ∀ f p, G.prim f = some p → PrimOk G.P f p
  mixed : G.P.follows .mixedOrders = true

section
variable {G : Cfg} {c : Con} {m : HM} {e : Env} {a : Act} {w w' : World}

/-- What one operation leads to. -/
def OpGoes (G : Cfg) (o : Oper) (c : Con) (m : HM) (a : Act) (w : World) (K : TV → HM → Prop) : Prop :=
  ∀ (next : Act → World → Prop) (Q : Exit → Act → World → Prop),
    (∀ v m' c' w', Rel G.A c' m' w' → Since c m w c' m' w' → v.closed m'.bs.length = true → K v m' → next (a.put o.dst (v.conc c')) w') → o.wp G.P a w next Q

theorem OpGoes.of_value {o : Oper} {K : TV → HM → Prop} {v : TV} {m' : HM} {c' : Con} {w' : World} (h : (execOp a.eval o).run G.P w = .ok (.value (v.conc c')) w')
    (hr : Rel G.A c' m' w') (hs : Since c m w c' m' w') (hv : v.closed m'.bs.length = true) (hK : K v m') : OpGoes G o c m a w K := by
  intro next Q hn
  unfold Oper.wp
  rw [h]
  exact hn v m' c' w' hr hs hv hK

theorem OpGoes.of_skip {o : Oper} {K : TV → HM → Prop} {m' : HM} {c' : Con} {w' : World} (h : (execOp a.eval o).run G.P w = .ok .skip w')
    (hr : Rel G.A c' m' w') (hs : Since c m w c' m' w') (hK : K (.tup []) m') : OpGoes G o c m a w K := by
  intro next Q hn
  unfold Oper.wp
  rw [h]
  exact hn (.tup []) m' c' w' hr hs rfl hK

theorem OpGoes.of_enter {o : Oper} {K : TV → HM → Prop} {f : FuncId} {A : Array Value} (h : (execOp a.eval o).run G.P w = .ok (.enter f A) w)
    (hc : Calls G.P f A w fun e w' => ∃ v m' c', e = .returned (v.conc c') ∧ Rel G.A c' m' w' ∧ Since c m w c' m' w' ∧ v.closed m'.bs.length = true ∧ K v m') : OpGoes G o c m a w K := by
  intro next Q hn
  unfold Oper.wp
  rw [h]
  refine hc.mono fun e w' hw => ?_
  obtain ⟨v, m', c', rfl, hr, hs, hv, hR⟩ := hw
  exact hn v m' c' w' hr hs hv hR

theorem Rel.as0 (w : World) (c : Con) : Ev.RelM w c [] w :=
  ⟨fun b x hx => by simp [nth] at hx, fun b x hx => by simp [nth] at hx, fun b d x y hx => by simp [nth] at hx, fun b hb => by simp at hb,
    fun b hb => by simp at hb, fun _ _ => rfl, Nat.le_refl _, rfl, rfl, rfl⟩

/-- A call of a function of values, in its first form. -/
theorem calls_fn {P : Program} {f : FuncId} {args : List TV} {v : TV} (h : Ev.Fn P f args v) (ha : closedTs 0 args = true) (c : Con) (w : World) :
    Calls P f (args.map (TV.conc c)).toArray w fun e w' => e = .returned (v.conc c) ∧ Same w w' ∧ ∀ r, r < w.heap.size → w'.heap[r]? = w.heap[r]? := by
  refine ((h.2 w []).2 c w (Rel.as0 w c) (closedTs_iff.1 ha)).mono fun e w' hh => ?_
  obtain ⟨v', m', c', h1, h2, h3, h4, rfl, rfl⟩ := hh
  have ag : Agree 0 c' c := fun b hb => absurd hb (Nat.not_lt_zero b)
  exact ⟨by rw [h1, TV.conc_agree ag h.1], ⟨h2.size, h2.os, h2.tape, h2.output⟩, h2.ext⟩

theorem Since.still (hs : Same w w') (hk : ∀ r, r < w.heap.size → w'.heap[r]? = w.heap[r]?) {N1 : Base} (hf : ∀ r o, N1 r o → m.N r o ∨ w.heap.size ≤ r) : Since c m w c ⟨m.bs, N1⟩ w' :=
  ⟨Nat.le_refl _, fun _ _ => ⟨rfl, rfl⟩, hs, fun r hr _ => hk r hr, fun b x h1 h2 => absurd (nth_lt h1) (Nat.not_lt.2 h2), fun b x h1 _ => ⟨x, h1⟩, fun r o hn => (hf r o hn).elim .inl fun h => .inr (.inl h)⟩

theorem baseIn_keep {B : Base} (h : BaseIn B w) (hk : ∀ r, r < w.heap.size → w'.heap[r]? = w.heap[r]?) : BaseIn B w' := fun r o hr => by
  have := h r o hr
  rw [hk r (Array.getElem?_eq_some_iff.1 this).1]; exact this

theorem SP.conc_ext {p : SP} {n : Nat} : (SP.ext c p).conc Con0 = p.conc c ∧ (SP.ext c p).closed n = true := by cases p <;> exact ⟨rfl, rfl⟩

theorem Sc.conc_ext {s : Sc} {n : Nat} (h : s.closed n = true) : (Sc.ext c s).conc Con0 = s.conc c ∧ (Sc.ext c s).closed 0 = true := by
  unfold Sc.ext
  split
  · rename_i p; exact ⟨by simp [Sc.conc, (SP.conc_ext (c := c) (p := p) (n := 0)).1], (SP.conc_ext (c := c) (p := p)).2⟩
  · rename_i p l k; exact ⟨by simp [Sc.conc, (SP.conc_ext (c := c) (p := p) (n := 0)).1], (SP.conc_ext (c := c) (p := p)).2⟩
  · exact ⟨rfl, rfl⟩
  · rename_i h1 h2 h3
    cases s with
    | ptr p => cases p with
      | none => exact ⟨rfl, rfl⟩
      | some p => exact absurd rfl (h1 p)
    | slice p l k => cases p with
      | none => exact ⟨rfl, rfl⟩
      | some p => exact absurd rfl (h2 p l k)
    | buf b l => exact absurd rfl (h3 b l)
    | raw v => exact ⟨rfl, h⟩
    | _ => exact ⟨rfl, rfl⟩

theorem extL_conc {n : Nat} : ∀ {l : List Sc}, closedL n l = true → (extL c l).map (Sc.conc Con0) = l.map (Sc.conc c) ∧ closedL 0 (extL c l) = true
  | [], _ => ⟨rfl, rfl⟩
  | s :: l, h => by
    have h1 := closedL_iff.1 h s (by simp)
    have h2 : closedL n l = true := closedL_iff.2 fun s hs => closedL_iff.1 h s (by simp [hs])
    obtain ⟨e1, e2⟩ := extL_conc h2
    obtain ⟨e3, e4⟩ := Sc.conc_ext (c := c) h1
    exact ⟨by simp [extL, e1, e3], by simp [extL, closedL, e2, e4]⟩

theorem TC.conc_ext {n : Nat} {v : TC} (h : v.closed n = true) : (TC.ext c v).conc Con0 = v.conc c ∧ (TC.ext c v).closed 0 = true := by
  cases v with
  | one s => exact Sc.conc_ext h
  | agg l => exact ⟨by simp [TC.ext, TC.conc, (extL_conc (c := c) h).1], (extL_conc (c := c) h).2⟩

theorem extT_conc {n : Nat} : ∀ {l : List TC}, closedT n l = true → (extT c l).map (TC.conc Con0) = l.map (TC.conc c) ∧ closedT 0 (extT c l) = true
  | [], _ => ⟨rfl, rfl⟩
  | s :: l, h => by
    have h1 := closedT_iff.1 h s (by simp)
    have h2 : closedT n l = true := closedT_iff.2 fun s hs => closedT_iff.1 h s (by simp [hs])
    obtain ⟨e1, e2⟩ := extT_conc h2
    obtain ⟨e3, e4⟩ := TC.conc_ext (c := c) h1
    exact ⟨by simp [extT, e1, e3], by simp [extT, closedT, e2, e4]⟩

theorem TV.conc_ext {n : Nat} {v : TV} (h : v.closed n = true) : (TV.ext c v).conc Con0 = v.conc c ∧ (TV.ext c v).closed 0 = true := by
  cases v with
  | one s => exact Sc.conc_ext h
  | agg l => exact ⟨by simp [TV.ext, TV.conc, (extL_conc (c := c) h).1], (extL_conc (c := c) h).2⟩
  | tup l => exact ⟨by simp [TV.ext, TV.conc, (extT_conc (c := c) h).1], (extT_conc (c := c) h).2⟩

theorem extA_conc {n : Nat} : ∀ {l : List TV}, (∀ v ∈ l, v.closed n = true) → (extA c l).map (TV.conc Con0) = l.map (TV.conc c)
  | [], _ => rfl
  | v :: l, h => by
    have ih : (extA c l).map (TV.conc Con0) = l.map (TV.conc c) := extA_conc fun u hu => h u (List.mem_cons_of_mem _ hu)
    have h1 := (TV.conc_ext (c := c) (h v List.mem_cons_self)).1
    simp [extA, ih, h1]

theorem Rel.lent (hr : Rel G.A c m w) : Lent c (fun r o => w.heap[r]? = some o) m.bs := fun b x hx => by
  obtain ⟨junk, h1, _⟩ := hr.blk b x hx
  exact ⟨junk, by rw [(extL_conc (hr.cl b x hx)).1]; exact h1⟩

theorem acall_sound (hG : CfgOk G) (hr : Rel G.A c m w) (hf : Fits c m.bs.length e a) {o : Oper} {f : FuncId} {xs : Array Operand} {ts : Array TypeId} (ho : o.op = .call { callee := .value (.func f), args := xs, argTypes := ts })
    {vs : List TV} (hvs : getOps e xs.toList = some vs) {K : TV → HM → Prop} (h : acall G f vs m K) : OpGoes G o c m a w K := by
  obtain ⟨hargs, hcl⟩ := getOps_sound hf hvs
  have hA : xs.map a.eval = (vs.map (TV.conc c)).toArray := by
    apply Array.ext'
    simpa using hargs
  have hrun : (execOp a.eval o).run G.P w = (callFunc f (xs.map a.eval)).run G.P w := by
    simp [execOp, ho, resolve, Act.eval, Deferred.ofValue, invoke]
  rw [hA] at hrun
  have hle : Base.le (G.A.or m.N) (fun r o => w.heap[r]? = some o) := baseIn_or hr.baseA hr.baseN
  unfold acall at h
  split at h
  · rename_i p hp
    obtain ⟨v, hK, _, hc, h1 | h1⟩ := hG.prim f p hp w vs _ h
    · exact .of_value (by rw [hrun, h1]) hr (Since.refl c m w) (hc _) hK
    · refine .of_enter (by rw [hrun, (h1 []).1]) ?_
      have h0 := (h1 []).2 c w (Rel.as0 w c)
      have hcl0 : ∀ v ∈ vs, v.closed ([] : Mem).length = true := by
        unfold primC at h
        split at h <;> first | exact h.elim | (intro v hv; simp at hv; rcases hv with rfl | rfl | rfl <;> rfl) | (intro v hv; simp at hv; rcases hv with rfl | rfl <;> rfl)
      refine (h0 hcl0).mono fun e w' hh => ?_
      obtain ⟨v', m', c', h2, h3, _, _, rfl, rfl⟩ := hh
      have ag : Agree 0 c' c := fun b hb => absurd hb (Nat.not_lt_zero b)
      have hsame : Same w w' := ⟨h3.size, h3.os, h3.tape, h3.output⟩
      exact ⟨v', ⟨m.bs, m.N⟩, c, by rw [h2, TV.conc_agree ag (hc 0)], hr.more h3.ext h3.size (baseIn_keep hr.baseN h3.ext) (fun r o hn => .inl hn), Since.still hsame h3.ext (fun r o hn => .inl hn), hc _, hK⟩
  · split at h
    · obtain ⟨v, h1, h2, hK⟩ := h
      refine .of_enter (by rw [hrun, (h1.2 w []).1]) ((calls_fn h1 h2 c w).mono fun e w' ⟨h3, h4, h5⟩ => ?_)
      exact ⟨v, ⟨m.bs, m.N⟩, c, h3, hr.more h5 h4.size (baseIn_keep hr.baseN h5) (fun r o hn => .inl hn), Since.still h4 h5 (fun r o hn => .inl hn), TV.closed_mono (Nat.zero_le _) h1.1, hK⟩
    · obtain ⟨K0, h1, _, h3⟩ := h
      have hc := h1 c _ hle hr.lent
      refine .of_enter (by rw [hrun, hc.1]) ?_
      have := hc.2 w (fun _ _ h => h)
      rw [extA_conc hcl] at this
      refine this.mono fun e w' ⟨v, N', e1, e2, e3, e4, e5, e6, e7⟩ => ?_
      have hag : Agree 0 Con0 c := fun b hb => absurd hb (Nat.not_lt_zero b)
      have hN : BaseIn (m.N.or N') w' := baseIn_or (baseIn_keep hr.baseN e6) e3
      exact ⟨v, ⟨m.bs, m.N.or N'⟩, c, by rw [e1, TV.conc_agree hag e2], hr.more e6 e5.size hN (fun r o hn => hn.elim .inl fun h => .inr (e4 r o h)), Since.still e5 e6 (fun r o hn => hn.elim .inl fun h => .inr (e4 r o h)),
        TV.closed_mono (Nat.zero_le _) e2, h3 v N' e2 e7 _ (fun _ _ h => h)⟩
    · obtain ⟨K0, h1, _, h3⟩ := h
      have hc := h1 c _ hle hr.lent
      refine .of_enter (by rw [hrun, hc.1]) ?_
      have := hc.2 w (fun _ _ h => h)
      rw [extA_conc hcl] at this
      refine this.mono fun e w' ⟨r, n, cap, k, N', junk, e1, e2, e3, e4, e5, e6, e7, e8, e9, e10, e11, e12⟩ => ?_
      have hN : BaseIn (m.N.or N') w' := baseIn_or (baseIn_keep hr.baseN e11) e8
      have hK := h3 n cap k N' e5 e12 _ (fun _ _ h => h)
      rw [snoc_eq] at hK
      have hr1 := hr.more e11 e10.size hN (fun r o hn => hn.elim .inl fun h => .inr (e9 r o h))
      have hs1 : Since c m w c ⟨m.bs, m.N.or N'⟩ w' := Since.still e10 e11 (fun r o hn => hn.elim .inl fun h => .inr (e9 r o h))
      have hlt : r < w'.heap.size := (Array.getElem?_eq_some_iff.1 e2).1
      have hag := Con.add_agree c m.bs.length r 0
      have hι : ∀ b, b < m.bs.length → (c.add m.bs.length r 0).ι b = c.ι b := fun b hb => (hag b hb).1
      have hlast : (c.add m.bs.length r 0).ι m.bs.length = r := by simp [Con.add]
      have hnth : ∀ b y, nth (m.bs ++ [some k]) b = some y → (b < m.bs.length ∧ nth m.bs b = some y) ∨ (b = m.bs.length ∧ y = k) := fun b y hy => by
        have hl := nth_lt hy
        simp only [List.length_append, List.length_cons, List.length_nil] at hl
        by_cases hb : b < m.bs.length
        · rw [nth_append_lt hb] at hy; exact .inl ⟨hb, hy⟩
        · have : b = m.bs.length := by omega
          subst this
          rw [nth_append_last] at hy
          exact .inr ⟨rfl, by simpa using hy.symm⟩
      have ag0 : Agree 0 Con0 (c.add m.bs.length r 0) := fun b hb => absurd hb (Nat.not_lt_zero b)
      refine ⟨_, ⟨m.bs ++ [some k], m.N.or N'⟩, c.add m.bs.length r 0, ?_, ?_, ?_, ?_, hK⟩
      · rw [e1]; simp [TV.conc, Sc.conc, SP.conc, hlast]
      · refine ⟨fun b y hy => ?_, fun b y hy => ?_, fun b d y z hy hz e => ?_, fun b hb => ?_, hr1.baseA, hr1.baseN, fun b y o hy => ?_, fun b y o hy => ?_⟩
        · rcases hnth b y hy with ⟨hb, hy⟩ | ⟨rfl, rfl⟩
          · rw [hι b hb, concL_agree hag (hr.cl b y hy)]; exact hr1.blk b y hy
          · exact ⟨junk, by rw [hlast, concL_agree ag0 e5]; exact e2, e3, e4⟩
        · rcases hnth b y hy with ⟨hb, hy⟩ | ⟨rfl, rfl⟩
          · exact closedL_mono (by simp) (hr.cl b y hy)
          · exact closedL_mono (Nat.zero_le _) e5
        · rcases hnth b y hy with ⟨hb, hy⟩ | ⟨rfl, rfl⟩ <;> rcases hnth d z hz with ⟨hd, hz⟩ | ⟨rfl, rfl⟩
          · rw [hι b hb, hι d hd] at e; exact hr.inj b d y z hy hz e
          · rw [hι b hb, hlast] at e; have := hr.lt b hb; omega
          · rw [hι d hd, hlast] at e; have := hr.lt d hd; omega
          · rfl
        · simp only [List.length_append, List.length_cons, List.length_nil] at hb
          by_cases hlt' : b < m.bs.length
          · rw [hι b hlt']; exact hr1.lt b hlt'
          · have : b = m.bs.length := by omega
            subst this; rw [hlast]; exact hlt
        · rcases hnth b y hy with ⟨hb, hy⟩ | ⟨rfl, rfl⟩
          · rw [hι b hb]; exact hr1.sepA b y o hy
          · rw [hlast]; intro hA
            have := (Array.getElem?_eq_some_iff.1 (hr.baseA _ _ hA)).1; omega
        · rcases hnth b y hy with ⟨hb, hy⟩ | ⟨rfl, rfl⟩
          · rw [hι b hb]; exact hr1.sepN b y o hy
          · rw [hlast]; intro hA
            rcases hA with hA | hA
            · have := (Array.getElem?_eq_some_iff.1 (hr.baseN _ _ hA)).1; omega
            · exact e7 o hA
      · refine ⟨by simp, fun b hb => hag b hb, e10, fun r' hr' hno => e11 r' hr', fun b y hy h1 => ?_, fun b y hy hb => ?_, hs1.newN⟩
        · rcases hnth b y hy with ⟨hb, _⟩ | ⟨rfl, _⟩
          · omega
          · left; rw [hlast]; exact e6
        · rcases hnth b y hy with ⟨_, hy⟩ | ⟨rfl, _⟩
          · exact ⟨y, hy⟩
          · omega
      · simp [TV.closed, Sc.closed, SP.closed]
    · obtain ⟨R, h1, _, h3⟩ := h
      exact .of_enter (by rw [hrun, h1.1]) ((h1.2 c w hr hcl).mono fun e w' ⟨v, m', c', e1, e2, e3, e4, e5⟩ => ⟨v, m', c', e1, e2, e3, e4, h3 v m' e5⟩)

theorem aload_run (hG : CfgOk G) (hr : Rel G.A c m w) {t : TypeId} {x : TV} (_hx : x.closed m.bs.length = true) {K : TV → HM → Prop} (h : aload G t x m K) :
    ∃ p v, x.conc c = .pointer (some p) ∧ (loadVar t p).run G.P w = .ok (v.conc c) w ∧ v.closed m.bs.length = true ∧ K v m := by
  unfold aload at h
  split at h
  · rename_i i b o ht
    split at h
    · rename_i k hk
      split at h
      · rename_i v hv
        exact ⟨_, v, rfl, run_loadVar (hG.tys _ _ ht) hr hk hv, partV_closed hv (hr.cl b k hk), h⟩
      · cases h
    · cases h
  · rename_i i p ht
    obtain ⟨v, hv, hK⟩ := h
    obtain ⟨h1, h2⟩ := run_loadVar_ext (c := c) (hG.tys _ _ ht) (baseIn_or hr.baseA hr.baseN) hv
    exact ⟨_, v, rfl, h1, TV.closed_mono (Nat.zero_le _) h2, hK⟩
  · cases h

end
end Go.Hv
