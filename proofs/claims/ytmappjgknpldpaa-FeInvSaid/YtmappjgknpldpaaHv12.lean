import Derived.Test.YtmappjgknpldpaaHv11
namespace Go.Hv
open Go.Ev
section
variable {G : Cfg}

theorem ares_sound (hG : CfgOk G) {N : Nat} {c : Con} {m : HM} {e : Env} {a : Act} {w : World} (hst : St G N c m e a w) : ∀ (rs : List ResultVar) (K : List TC → Prop), ares G rs e m K →
    ∃ l, K l ∧ (rs.mapM (resV a.tmps)).run G.P w = .ok (l.map (TC.conc c)) w ∧ ∀ u ∈ l, u.closed m.bs.length = true
  | [], K, h => ⟨[], h, by simp, by simp⟩
  | .tmp t :: rs, K, h => by
    simp only [ares] at h
    split at h
    · rename_i v hv
      split at h
      · rename_i u hu
        obtain ⟨h1, h2⟩ := hst.fits.get t v hv
        obtain ⟨l, hl, hrun, hcl⟩ := ares_sound hG hst rs _ h
        refine ⟨u :: l, hl, ?_, ?_⟩
        · rw [List.mapM_cons]
          simp only [Sem.run_bind, resV, Sem.run_pure, Result.andThen_ok, hrun, h1, List.map_cons, TV.tc_conc hu]
        · simp only [List.mem_cons, forall_eq_or_imp]
          exact ⟨by rw [TV.tc_closed hu]; exact h2, hcl⟩
      · exact h.elim
    · exact h.elim
  | .cell t ty :: rs, K, h => by
    simp only [ares] at h
    split at h
    · rename_i v hv
      obtain ⟨h1, h2⟩ := hst.fits.get t v hv
      obtain ⟨p, u, hp, hrun, hu, hK⟩ := aload_run hG hst.rel h2 h
      split at hK
      · rename_i uc huc
        obtain ⟨l, hl, hrun', hcl⟩ := ares_sound hG hst rs _ hK
        refine ⟨uc :: l, hl, ?_, ?_⟩
        · rw [List.mapM_cons]
          simp only [Sem.run_bind, resV, h1, hp, asAddr, Sem.run_pure, Result.andThen_ok, hrun, hrun', List.map_cons, TV.tc_conc huc]
        · simp only [List.mem_cons, forall_eq_or_imp]
          exact ⟨by rw [TV.tc_closed huc]; exact hu, hcl⟩
      · exact hK.elim
    · exact h.elim

theorem call_of_swp (hG : CfgOk G) {f : FuncId} {fn : Func} {cd : Code} {args : List TV} {m : HM} {K : TV → HM → Prop} (hf : G.P.funcs[f]? = some fn) (hb : fn.body = some cd)
    (hn : (fn.name == "runtime.NumGoroutine") = false) (hk : okCode G fn.ntmps cd = true) (h : swp G cd (post G fn.results K) (ienv 0 args) m) : CALL G.P G.A f args m K := by
  refine ⟨enters_of hf hb hn, fun c w hr hcl => ?_⟩
  refine calls_of_wp hf hb ?_
  have hst : St G fn.ntmps c m (ienv 0 args) { tmps := (args.map (TV.conc c)).toArray ++ Array.replicate (fn.ntmps - (args.map (TV.conc c)).toArray.size) undef, defers := [] } w := by
    refine ⟨hr, ⟨fun t v hv => ?_, rfl⟩, by simp; omega⟩
    obtain ⟨j, rfl, hj⟩ := ienv_get args 0 t v hv
    simp only [Nat.zero_add]
    have hlt : j < args.length := (List.getElem?_eq_some_iff.1 hj).1
    have hv' : args[j] = v := (List.getElem?_eq_some_iff.1 hj).2
    refine ⟨?_, hcl v (List.mem_of_getElem? hj)⟩
    simp [Array.getElem?_append, hlt, hv']
  refine wp_mono (swp_sound hG cd _ _ m c _ w hk h hst) fun x a' w' hp => ?_
  obtain ⟨e', m', c', hq, hst', hs⟩ := hp
  have fin : ares G fn.results.toList e' m' (fun l => K (outV l) m') → a'.defers = [] ∧ ∃ v, (results fn a'.tmps).run G.P w' = .ok v w' ∧
      (∃ v_1 m' c', Ending.returned v = Ending.returned (TV.conc c' v_1) ∧ Rel G.A c' m' w' ∧ Since c m w c' m' w' ∧ TV.closed m'.bs.length v_1 = true ∧ K v_1 m') := fun hh => by
    obtain ⟨l, hl, hrun, hcl'⟩ := ares_sound hG hst' _ _ hh
    exact ⟨hst'.fits.defers, _, results_run (G := (⟨G.P, default, [], fun _ => none, fun _ => true⟩ : Ev.Cfg)) hrun, outV l, m', c', rfl, hst'.rel, hs, outV_closed hcl', hl⟩
  cases x with
  | normal => exact fin hq
  | ret => exact fin hq
  | _ => exact hq.elim

theorem CALL.mono {P : Program} {A : Base} {f : FuncId} {args : List TV} {m : HM} {K K' : TV → HM → Prop} (h : CALL P A f args m K) (hk : ∀ v m', K v m' → K' v m') : CALL P A f args m K' :=
  ⟨h.1, fun c w hr hcl => (h.2 c w hr hcl).mono fun _ _ ⟨v, m', c', h1, h2, h3, h4, h5⟩ => ⟨v, m', c', h1, h2, h3, h4, hk v m' h5⟩⟩

/-- Nothing owned, nothing known. -/
def M0 : HM := ⟨[], B0⟩

theorem rel0 {A : Base} {c : Con} {w : World} (h : BaseIn A w) : Rel A c M0 w :=
  ⟨fun b x hx => by simp [M0, nth] at hx, fun b x hx => by simp [M0, nth] at hx, fun b d x y hx => by simp [M0, nth] at hx, fun b hb => by simp [M0] at hb, h, fun r o hr => hr.elim,
    fun b x o hx => by simp [M0, nth] at hx, fun b x o hx => by simp [M0, nth] at hx⟩

/-- A call from nothing owned: everything made is frozen behind it. -/
theorem hc_of_call {P : Program} {A : Base} {f : FuncId} {args : List TV} {K0 : TV → Base → Prop} (ha : closedTs 0 args = true)
    (h : CALL P A f args M0 fun v m => ∀ c N1, Base.le m.N N1 → Lent c N1 m.bs → K0 (TV.ext c v) N1) : HC P A f args K0 := by
  refine ⟨h.1, fun w hw => ?_⟩
  refine (h.2 Con0 w (rel0 hw) (closedTs_iff.1 ha)).mono fun e w' hh => ?_
  obtain ⟨v, m', c', h1, hr, hs, hcl, hK⟩ := hh
  have nomem : ∀ (b : Nat) (x : Blk), ¬ nth M0.bs b = some x := fun b x hx => by simp [M0, nth] at hx
  have hfr : ∀ b x, nth m'.bs b = some x → w.heap.size ≤ c'.ι b := fun b x hx => by
    rcases hs.fresh b x hx (Nat.zero_le _) with h' | ⟨d, y, hy, _⟩
    · exact h'
    · exact absurd hy (nomem d y)
  let N1 : Base := fun r o => m'.N r o ∨ ∃ b x, nth m'.bs b = some x ∧ c'.ι b = r ∧ w'.heap[r]? = some o
  obtain ⟨e1, e2⟩ := TV.conc_ext (c := c') hcl
  refine ⟨TV.ext c' v, N1, by rw [h1, e1], e2, fun r o hr' => ?_, fun r o hr' => ?_, hs.same, fun r hr' => hs.keep r hr' (fun b x hx => absurd hx (nomem b x)), hK c' N1 (fun _ _ h => .inl h) (fun b x hx => ?_)⟩
  · rcases hr' with hr' | ⟨_, _, _, _, hr'⟩
    · exact hr.baseN r o hr'
    · exact hr'
  · rcases hr' with hr' | ⟨b, x, hx, rfl, _⟩
    · rcases hs.newN r o hr' with h' | h' | ⟨d, y, hy, _⟩
      · exact h'.elim
      · exact h'
      · exact absurd hy (nomem d y)
    · exact hfr b x hx
  · obtain ⟨junk, h1, _⟩ := hr.blk b x hx
    exact ⟨junk, .inr ⟨b, x, hx, rfl, by rw [(extL_conc (hr.cl b x hx)).1]; exact h1⟩⟩

/-- The same; its result is a slice of a block that it made, and nobody else knows. -/
theorem hco_of_call {P : Program} {A : Base} {f : FuncId} {args : List TV} {K0 : Nat → Nat → Blk → Base → Prop} (ha : closedTs 0 args = true)
    (h : CALL P A f args M0 fun v m => ∃ b n cap k, v = .one (.slice (some (.loc b 0)) n cap) ∧ nth m.bs b = some k ∧ closedL 0 k.cells = true ∧ K0 n cap k m.N) : HCO P A f args K0 := by
  refine ⟨h.1, fun w hw => ?_⟩
  refine (h.2 Con0 w (rel0 hw) (closedTs_iff.1 ha)).mono fun e w' hh => ?_
  obtain ⟨v, m', c', h1, hr, hs, hcl, b, n, cap, k, rfl, hk, hkc, hK⟩ := hh
  have nomem : ∀ (b : Nat) (x : Blk), ¬ nth M0.bs b = some x := fun b x hx => by simp [M0, nth] at hx
  obtain ⟨junk, g1, g2, g3⟩ := hr.blk b k hk
  have ag0 : Agree 0 Con0 c' := fun b hb => absurd hb (Nat.not_lt_zero b)
  refine ⟨c'.ι b, n, cap, k, m'.N, junk, by rw [h1]; rfl, by rw [← concL_agree ag0 hkc]; exact g1, g2, g3, hkc, ?_, fun o => hr.sepN b k o hk, hr.baseN, fun r o hr' => ?_, hs.same,
    fun r hr' => hs.keep r hr' (fun b x hx => absurd hx (nomem b x)), hK⟩
  · rcases hs.fresh b k hk (Nat.zero_le _) with h' | ⟨d, y, hy, _⟩
    · exact h'
    · exact absurd hy (nomem d y)
  · rcases hs.newN r o hr' with h' | h' | ⟨d, y, hy, _⟩
    · exact h'.elim
    · exact h'
    · exact absurd hy (nomem d y)

/-- A function of values, whatever it makes meanwhile. -/
theorem fn_of_hc {P : Program} {f : FuncId} {args : List TV} {v : TV} (hv : v.closed 0 = true) (ha : closedTs 0 args = true) (h : ∀ A, HC P A f args fun v' _ => v' = v) : Ev.Fn P f args v := by
  refine ⟨hv, fun W0 m => ⟨(h B0).1, fun c w hr hcl => ?_⟩⟩
  have hc := (h fun r o => w.heap[r]? = some o).2 w (fun _ _ h => h)
  have ag : Agree 0 Con0 c := fun b hb => absurd hb (Nat.not_lt_zero b)
  have hargs : args.map (TV.conc Con0) = args.map (TV.conc c) := List.map_congr_left fun u hu => (TV.conc_agree ag (closedTs_iff.1 ha u hu)).symm
  rw [hargs] at hc
  refine hc.mono fun e w' hh => ?_
  obtain ⟨v', N, h1, h2, _, _, h5, h6, rfl⟩ := hh
  refine ⟨v', m, c, by rw [h1, TV.conc_agree ag hv], ?_, ⟨Nat.le_refl _, fun _ _ => ⟨rfl, rfl⟩, h5.size, fun r hr' _ => h6 r hr', fun b x g6 g7 => absurd (nth_lt g6) (by omega), fun b x g6 _ => ⟨x, g6⟩⟩, TV.closed_mono (Nat.zero_le _) hv, rfl, rfl⟩
  refine ⟨fun b x hx => ?_, hr.cl, hr.inj, hr.ge, fun b hb => ?_, fun r hr' => ?_, Nat.le_trans hr.size h5.size, h5.os.trans hr.os, h5.tape.trans hr.tape, h5.output.trans hr.output⟩
  · obtain ⟨junk, k1, k2⟩ := hr.blk b x hx
    exact ⟨junk, by rw [h6 _ (hr.lt b (nth_lt hx))]; exact k1, k2⟩
  · exact Nat.lt_of_lt_of_le (hr.lt b hb) h5.size
  · rw [h6 r (Nat.lt_of_lt_of_le hr' hr.size)]; exact hr.ext r hr'

/-! ### 'Wk', piece by piece -/

def WkE (F : Nat → Bool) (c : Con) (e : Env) (n : Nat) : Env → Prop
  | [] => True
  | (t, v) :: r => (∃ u, Ev.get e t = some u ∧ v = TV.fz F c u ∧ v.closed n = true) ∧ WkE F c e n r

def WkM (F : Nat → Bool) (c : Con) (m : Mem) (n : Nat) : Nat → Mem → Prop
  | _, [] => True
  | b, none :: r => WkM F c m n (b + 1) r
  | b, some x :: r => (F b = false ∧ (∃ y, nth m b = some y ∧ x = ⟨fzL F c y.cells, y.elem, y.es, y.grows⟩ ∧ closedL n x.cells = true)) ∧ WkM F c m n (b + 1) r

theorem WkE.get {F : Nat → Bool} {c : Con} {e : Env} {n : Nat} : ∀ {e' : Env}, WkE F c e n e' → ∀ t v, Ev.get e' t = some v → ∃ u, Ev.get e t = some u ∧ v = TV.fz F c u ∧ v.closed n = true
  | [], _, t, v, h => by simp [Ev.get] at h
  | (s, u) :: r, hw, t, v, h => by
    simp only [Ev.get] at h
    split at h
    · rename_i hb
      have := Nat.eq_of_beq_eq_true hb
      subst this
      simp only [Option.some.injEq] at h
      subst h; exact hw.1
    · exact WkE.get hw.2 t v h

theorem WkM.nth {F : Nat → Bool} {c : Con} {m : Mem} {n : Nat} : ∀ {m' : Mem} {k : Nat}, WkM F c m n k m' → ∀ b x, Ev.nth m' b = some x → F (k + b) = false ∧ ∃ y, Ev.nth m (k + b) = some y ∧ x = ⟨fzL F c y.cells, y.elem, y.es, y.grows⟩ ∧ closedL n x.cells = true
  | [], k, _, b, x, h => by simp [Ev.nth] at h
  | none :: r, k, hw, b, x, h => by
    cases b with
    | zero => simp [Ev.nth] at h
    | succ b =>
      have := WkM.nth (k := k + 1) hw b x h
      rwa [show k + 1 + b = k + (b + 1) by omega] at this
  | some y :: r, k, hw, b, x, h => by
    cases b with
    | zero =>
      simp only [Ev.nth, Option.some.injEq] at h
      subst h; exact hw.1
    | succ b =>
      have := WkM.nth (k := k + 1) hw.2 b x h
      rwa [show k + 1 + b = k + (b + 1) by omega] at this

theorem wk_of {F : Nat → Bool} {c : Con} {L : Nat} {e e' : Env} {m : HM} {bs' : Mem} {N1 : Base} (h1 : WkE F c e bs'.length e') (h2 : WkM F c m.bs bs'.length 0 bs') (h3 : bs'.length ≤ m.bs.length) (h4 : L ≤ bs'.length) : Wk F c L e m e' ⟨bs', N1⟩ :=
  ⟨h1.get, fun b x hx => by have := h2.nth b x hx; rwa [Nat.zero_add] at this, h3, h4⟩

def F0 : Nat → Bool := fun _ => false

end
end Go.Hv
