import Derived.Test.YtmappjgknpldpaaEv10
namespace Go.Ev
section
variable {G : Cfg}

theorem enters_of {P : Program} {f : FuncId} {fn : Func} {cd : Code} (hf : P.funcs[f]? = some fn) (hb : fn.body = some cd) (hn : (fn.name == "runtime.NumGoroutine") = false) : Enters P f := by
  intro A w
  have hn' : ¬ fn.name = "runtime.NumGoroutine" := by simpa using hn
  simp [callFunc, hf, hb, hn']

/-- A result. -/
def resV (tmps : Array Value) : ResultVar → Sem Value
  | .tmp t => pure (tmps.getD t undef)
  | .cell a t => do loadVar t (← asAddr (tmps.getD a undef))

theorem ares_sound (hG : CfgOk G) {N : Nat} {c : Con} {m : Mem} {e : Env} {a : Act} {w : World} (hst : St G N c m e a w) : ∀ (rs : List ResultVar) (K : List TC → Prop), ares G rs e m K →
    ∃ l, K l ∧ (rs.mapM (resV a.tmps)).run G.P w = .ok (l.map (TC.conc c)) w ∧ ∀ u ∈ l, u.closed m.length = true
  | [], K, h => ⟨[], h, by simp, by simp⟩
  | .tmp t :: rs, K, h => by
    simp only [ares] at h
    split at h
    · rename_i v hv
      split at h
      · rename_i u hu
        obtain ⟨h1, h2⟩ := hst.fits.get t v hv
        obtain ⟨l, hl, hrun, hcl⟩ := ares_sound hG hst rs _ h
        refine ⟨u :: l, hl, ?_, ?_⟩
        · rw [List.mapM_cons]
          simp only [Sem.run_bind, resV, Sem.run_pure, Result.andThen_ok, hrun, h1, List.map_cons, TV.tc_conc hu]
        · simp only [List.mem_cons, forall_eq_or_imp]
          exact ⟨by rw [TV.tc_closed hu]; exact h2, hcl⟩
      · exact h.elim
    · exact h.elim
  | .cell t ty :: rs, K, h => by
    simp only [ares] at h
    split at h
    · rename_i v hv
      obtain ⟨h1, h2⟩ := hst.fits.get t v hv
      obtain ⟨p, u, hp, hrun, hu, hK⟩ := aload_run hG hst.rel h2 h
      split at hK
      · rename_i uc huc
        obtain ⟨l, hl, hrun', hcl⟩ := ares_sound hG hst rs _ hK
        refine ⟨uc :: l, hl, ?_, ?_⟩
        · rw [List.mapM_cons]
          simp only [Sem.run_bind, resV, h1, hp, asAddr, Sem.run_pure, Result.andThen_ok, hrun, hrun', List.map_cons, TV.tc_conc huc]
        · simp only [List.mem_cons, forall_eq_or_imp]
          exact ⟨by rw [TV.tc_closed huc]; exact hu, hcl⟩
      · exact hK.elim
    · exact h.elim

theorem results_run {fn : Func} {tmps : Array Value} {c : Con} {w : World} {l : List TC} (h : (fn.results.toList.mapM (resV tmps)).run G.P w = .ok (l.map (TC.conc c)) w) :
    (results fn tmps).run G.P w = .ok ((outV l).conc c) w := by
  have h1 : (fn.results.mapM (resV tmps)).run G.P w = .ok (l.map (TC.conc c)).toArray w := by
    rw [Array.mapM_eq_mapM_toList]
    simp only [Sem.run_map, h, Result.andThen_ok]
  have h2 : results fn tmps = (do
      let vs ← fn.results.mapM (resV tmps)
      pure (if h : vs.size = 1 then vs[0] else .tuple vs)) := by
    unfold results
    congr 1
  rw [h2]
  simp only [Sem.run_bind, h1, Result.andThen_ok, Sem.run_pure]
  congr 1
  match l with
  | [] => simp [outV, TV.conc]
  | [u] => simp [outV, TC.tv_conc]
  | u :: v :: l => simp [outV, TV.conc]

theorem outV_closed {n : Nat} {l : List TC} (h : ∀ u ∈ l, u.closed n = true) : (outV l).closed n = true := by
  match l with
  | [] => rfl
  | [u] => rw [outV, TC.tv_closed]; exact h u (by simp)
  | u :: v :: l => exact closedT_iff.2 h

theorem ienv_get : ∀ (args : List TV) (k t : Nat) (v : TV), get (ienv k args) t = some v → ∃ j, t = k + j ∧ args[j]? = some v
  | [], k, t, v, h => by simp [ienv, get] at h
  | u :: args, k, t, v, h => by
    simp only [ienv, get] at h
    split at h
    · rename_i hb
      have := Nat.eq_of_beq_eq_true hb
      subst this
      exact ⟨0, rfl, by simpa using h⟩
    · obtain ⟨j, rfl, hj⟩ := ienv_get args (k + 1) t v h
      exact ⟨j + 1, by omega, by simpa using hj⟩

theorem call_of_swp (hG : CfgOk G) {f : FuncId} {fn : Func} {cd : Code} {args : List TV} {m : Mem} {K : TV → Mem → Prop} (hf : G.P.funcs[f]? = some fn) (hb : fn.body = some cd)
    (hn : (fn.name == "runtime.NumGoroutine") = false) (hk : okCode G fn.ntmps cd = true) (h : swp G cd (post G fn.results K) (ienv 0 args) m) : CALL G.P G.W0 f args m K := by
  refine ⟨enters_of hf hb hn, fun c w hr hcl => ?_⟩
  refine calls_of_wp hf hb ?_
  have hst : St G fn.ntmps c m (ienv 0 args) { tmps := (args.map (TV.conc c)).toArray ++ Array.replicate (fn.ntmps - (args.map (TV.conc c)).toArray.size) undef, defers := [] } w := by
    refine ⟨hr, ⟨fun t v hv => ?_, rfl⟩, by simp; omega⟩
    obtain ⟨j, rfl, hj⟩ := ienv_get args 0 t v hv
    simp only [Nat.zero_add]
    have hlt : j < args.length := (List.getElem?_eq_some_iff.1 hj).1
    have hv' : args[j] = v := (List.getElem?_eq_some_iff.1 hj).2
    refine ⟨?_, hcl v (List.mem_of_getElem? hj)⟩
    simp [Array.getElem?_append, hlt, hv']
  refine wp_mono (swp_sound hG cd _ _ m c _ w hk h hst) fun x a' w' hp => ?_
  obtain ⟨e', m', c', hq, hst', hs⟩ := hp
  have fin : ares G fn.results.toList e' m' (fun l => K (outV l) m') → a'.defers = [] ∧ ∃ v, (results fn a'.tmps).run G.P w' = .ok v w' ∧
      (∃ v_1 m' c', Ending.returned v = Ending.returned (TV.conc c' v_1) ∧ RelM G.W0 c' m' w' ∧ Since c m w c' m' w' ∧ TV.closed m'.length v_1 = true ∧ K v_1 m') := fun hh => by
    obtain ⟨l, hl, hrun, hcl'⟩ := ares_sound hG hst' _ _ hh
    exact ⟨hst'.fits.defers, _, results_run hrun, outV l, m', c', rfl, hst'.rel, hs, outV_closed hcl', hl⟩
  cases x with
  | normal => exact fin hq
  | ret => exact fin hq
  | _ => exact hq.elim

/-- Less memory than the walk has: what it made and nobody needs. -/
theorem CALL.mono {P : Program} {W0 : World} {f : FuncId} {args : List TV} {m : Mem} {K K' : TV → Mem → Prop} (h : CALL P W0 f args m K) (hk : ∀ v m', K v m' → K' v m') : CALL P W0 f args m K' :=
  ⟨h.1, fun c w hr hcl => (h.2 c w hr hcl).mono fun _ _ ⟨v, m', c', h1, h2, h3, h4, h5⟩ => ⟨v, m', c', h1, h2, h3, h4, hk v m' h5⟩⟩

theorem nth_take {m : Mem} {n b : Nat} {x : Blk} (h : nth (m.take n) b = some x) : b < n ∧ nth m b = some x := by
  rw [nth_eq] at *
  rw [List.getElem?_take] at h
  split at h
  · exact ⟨‹_›, h⟩
  · cases h

/-- A function of values: walked over no memory at all, it serves over any. -/
theorem fn_of_empty {P : Program} {f : FuncId} {args : List TV} {v : TV} (hv : v.closed 0 = true) (hargs : ∀ u ∈ args, u.closed 0 = true)
    (h : ∀ W0, CALL P W0 f args [] fun v' _ => v' = v) (W0 : World) (m : Mem) : CALL P W0 f args m fun v' m' => v' = v ∧ m' = m := by
  refine ⟨(h W0).1, fun c w hr hcl => ?_⟩
  have hr0 : RelM w c [] w := ⟨fun b x hx => by simp [nth] at hx, fun b x hx => by simp [nth] at hx, fun b d x y hx => by simp [nth] at hx, fun b hb => by simp at hb,
    fun b hb => by simp at hb, fun _ _ => rfl, Nat.le_refl _, rfl, rfl, rfl⟩
  refine ((h w).2 c w hr0 (fun u hu => hargs u hu)).mono fun e w' hh => ?_
  obtain ⟨v', m', c', h1, h2, h3, h4, h5⟩ := hh
  subst h5
  have agree0 : Agree 0 c' c := fun b hb => absurd hb (Nat.not_lt_zero b)
  have keep : ∀ r, r < w.heap.size → w'.heap[r]? = w.heap[r]? := fun r hr' => h2.ext r hr'
  refine ⟨v', m, c, by rw [h1, TV.conc_agree agree0 hv], ?_, ⟨Nat.le_refl _, fun _ _ => ⟨rfl, rfl⟩, h2.size, fun r hr' _ => keep r hr', fun b x h6 h7 => absurd (nth_lt h6) (by omega), fun b x h6 _ => ⟨x, h6⟩⟩, TV.closed_mono (Nat.zero_le _) hv, rfl, rfl⟩
  refine ⟨fun b x hx => ?_, hr.cl, hr.inj, hr.ge, fun b hb => ?_, fun r hr' => ?_, Nat.le_trans hr.size h2.size, h2.os.trans hr.os, h2.tape.trans hr.tape, h2.output.trans hr.output⟩
  · obtain ⟨junk, k1, k2⟩ := hr.blk b x hx
    exact ⟨junk, by rw [keep _ (hr.lt b (nth_lt hx))]; exact k1, k2⟩
  · exact Nat.lt_of_lt_of_le (hr.lt b hb) h2.size
  · rw [keep r (Nat.lt_of_lt_of_le hr' hr.size)]; exact hr.ext r hr'

/-- 'f' is a function of values. -/
def Fn (P : Program) (f : FuncId) (args : List TV) (v : TV) : Prop := v.closed 0 = true ∧ ∀ W0 m, CALL P W0 f args m fun v' m' => v' = v ∧ m' = m

/-- A call of a function of values. -/
theorem acall_fn {f : FuncId} {args : List TV} {m : Mem} {K : TV → Mem → Prop} {v : TV} (hp : G.prim f = none) (hr : G.reads f = true) (ha : (closedTs m.length args && closedMs m.length m) = true) (h : Fn G.P f args v) (hK : K v m) : acall G f args m K := by
  unfold acall
  rw [hp]
  simp only [hr, ha]
  exact ⟨v, h.2 G.W0 m, TV.closed_mono (Nat.zero_le _) h.1, hK⟩

/-- 'Wk', piece by piece. -/
def WkE (e : Env) (n : Nat) : Env → Prop
  | [] => True
  | (t, v) :: r => (get e t = some v ∧ v.closed n = true) ∧ WkE e n r

def WkM (m : Mem) (n : Nat) : Nat → Mem → Prop
  | _, [] => True
  | b, none :: r => WkM m n (b + 1) r
  | b, some x :: r => (nth m b = some x ∧ closedL n x.cells = true) ∧ WkM m n (b + 1) r

theorem WkE.get {e : Env} {n : Nat} : ∀ {e' : Env}, WkE e n e' → ∀ t v, Ev.get e' t = some v → Ev.get e t = some v ∧ v.closed n = true
  | [], _, t, v, h => by simp [Ev.get] at h
  | (s, u) :: r, hw, t, v, h => by
    simp only [Ev.get] at h
    split at h
    · rename_i hb
      have := Nat.eq_of_beq_eq_true hb
      subst this
      simp only [Option.some.injEq] at h
      subst h; exact hw.1
    · exact WkE.get hw.2 t v h

theorem WkM.nth {m : Mem} {n : Nat} : ∀ {m' : Mem} {k : Nat}, WkM m n k m' → ∀ b x, Ev.nth m' b = some x → Ev.nth m (k + b) = some x ∧ closedL n x.cells = true
  | [], k, _, b, x, h => by simp [Ev.nth] at h
  | none :: r, k, hw, b, x, h => by
    cases b with
    | zero => simp [Ev.nth] at h
    | succ b =>
      have := WkM.nth (k := k + 1) hw b x h
      rwa [show k + 1 + b = k + (b + 1) by omega] at this
  | some y :: r, k, hw, b, x, h => by
    cases b with
    | zero =>
      simp only [Ev.nth, Option.some.injEq] at h
      subst h; exact hw.1
    | succ b =>
      have := WkM.nth (k := k + 1) hw.2 b x h
      rwa [show k + 1 + b = k + (b + 1) by omega] at this

theorem wk_of {L : Nat} {e e' : Env} {m m' : Mem} (h1 : WkE e m'.length e') (h2 : WkM m m'.length 0 m') (h3 : m'.length ≤ m.length) (h4 : L ≤ m'.length) : Wk L e m e' m' :=
  ⟨h1.get, fun b x hx => by have := h2.nth b x hx; rwa [Nat.zero_add] at this, h3, h4⟩

end
end Go.Ev
