import Derived.Test.YtmappjgknpldpaaEv6
namespace Go.Ev

/-- A function's primitive does what the walk takes of it. -/
def PrimOk (P : Program) (W0 : World) (f : FuncId) (p : Prim) : Prop :=
  ∀ (args : List TV) (K : TV → Prop), primC p args K → ∃ v, K v ∧ (∀ K' : TV → Prop, K' v → primC p args K') ∧ (∀ n, v.closed n = true) ∧
    ((∀ (c : Con) (w : World), (callFunc f (args.map (TV.conc c)).toArray).run P w = .ok (.value (v.conc c)) w) ∨
     ∀ m, CALL P W0 f args m fun v' m' => v' = v ∧ m' = m)

structure CfgOk (G : Cfg) : Prop where
  tys : TysOk G.P G.T
  prim : ∀ f p, G.prim f = some p → PrimOk G.P G.W0 f p
  mixed : G.P.follows .mixedOrders = true

section
variable {G : Cfg} {c : Con} {m : Mem} {e : Env} {a : Act} {w : World}

theorem run_value' {P : Program} {s : Sem Value} {v : Value} {w w' : World} (h : s.run P w = .ok v w') : (do pure (.value (← s)) : Sem Next).run P w = .ok (.value v) w' := by
  simp [h]

/-- What one operation leads to. -/
def OpGoes (G : Cfg) (o : Oper) (c : Con) (m : Mem) (a : Act) (w : World) (K : TV → Mem → Prop) : Prop :=
  ∀ (next : Act → World → Prop) (Q : Exit → Act → World → Prop),
    (∀ v m' c' w', RelM G.W0 c' m' w' → Since c m w c' m' w' → v.closed m'.length = true → K v m' → next (a.put o.dst (v.conc c')) w') → o.wp G.P a w next Q

theorem OpGoes.of_value {o : Oper} {K : TV → Mem → Prop} {v : TV} {m' : Mem} {c' : Con} {w' : World} (h : (execOp a.eval o).run G.P w = .ok (.value (v.conc c')) w')
    (hr : RelM G.W0 c' m' w') (hs : Since c m w c' m' w') (hv : v.closed m'.length = true) (hK : K v m') : OpGoes G o c m a w K := by
  intro next Q hn
  unfold Oper.wp
  rw [h]
  exact hn v m' c' w' hr hs hv hK

theorem OpGoes.of_skip {o : Oper} {K : TV → Mem → Prop} {m' : Mem} {c' : Con} {w' : World} (h : (execOp a.eval o).run G.P w = .ok .skip w')
    (hr : RelM G.W0 c' m' w') (hs : Since c m w c' m' w') (hK : K (.tup []) m') : OpGoes G o c m a w K := by
  intro next Q hn
  unfold Oper.wp
  rw [h]
  exact hn (.tup []) m' c' w' hr hs rfl hK

theorem OpGoes.of_call {o : Oper} {K : TV → Mem → Prop} {f : FuncId} {A : Array Value} {R : TV → Mem → Prop} (h : (execOp a.eval o).run G.P w = .ok (.enter f A) w)
    (hc : Calls G.P f A w fun e w' => ∃ v m' c', e = .returned (v.conc c') ∧ RelM G.W0 c' m' w' ∧ Since c m w c' m' w' ∧ v.closed m'.length = true ∧ R v m')
    (hK : ∀ v m', R v m' → K v m') : OpGoes G o c m a w K := by
  intro next Q hn
  unfold Oper.wp
  rw [h]
  refine hc.mono fun e w' hw => ?_
  obtain ⟨v, m', c', rfl, hr, hs, hv, hR⟩ := hw
  exact hn v m' c' w' hr hs hv (hK v m' hR)

theorem run_callOp {o : Oper} {f : FuncId} {xs : Array Operand} {ts : Array TypeId} (ho : o.op = .call { callee := .value (.func f), args := xs, argTypes := ts }) :
    (execOp a.eval o).run G.P w = (callFunc f (xs.map a.eval)).run G.P w := by
  simp [execOp, ho, resolve, Act.eval, Deferred.ofValue, invoke]

theorem acall_sound (hG : CfgOk G) (hr : RelM G.W0 c m w) (hf : Fits c m.length e a) {o : Oper} {f : FuncId} {xs : Array Operand} {ts : Array TypeId} (ho : o.op = .call { callee := .value (.func f), args := xs, argTypes := ts })
    {vs : List TV} (hvs : getOps e xs.toList = some vs) {K : TV → Mem → Prop} (h : acall G f vs m K) : OpGoes G o c m a w K := by
  obtain ⟨hargs, hcl⟩ := getOps_sound hf hvs
  have hA : xs.map a.eval = (vs.map (TV.conc c)).toArray := by
    apply Array.ext'
    simpa using hargs
  have hrun := run_callOp (G := G) (a := a) (w := w) ho
  rw [hA] at hrun
  unfold acall at h
  split at h
  · rename_i p hp
    obtain ⟨v, hK, _, hc, h1 | h1⟩ := hG.prim f p hp vs _ h
    · exact .of_value (by rw [hrun, h1]) hr (Since.refl c m w) (hc _) hK
    · exact .of_call (by rw [hrun, (h1 m).1]) ((h1 m).2 c w hr hcl) fun v' m' ⟨h3, h4⟩ => by subst h3; subst h4; exact hK
  · split at h
    · split at h
      · obtain ⟨v, h1, h2, h3⟩ := h
        exact .of_call (by rw [hrun, h1.1]) (h1.2 c w hr hcl) fun v' m' ⟨h5, h6⟩ => by subst h5; subst h6; exact h3
      · exact h.elim
    · obtain ⟨R, h1, h2, h3⟩ := h
      exact .of_call (by rw [hrun, h1.1]) (h1.2 c w hr hcl) h3

theorem aload_run (hG : CfgOk G) (hr : RelM G.W0 c m w) {t : TypeId} {x : TV} (hx : x.closed m.length = true) {K : TV → Mem → Prop} (h : aload G t x m K) :
    ∃ p v, x.conc c = .pointer (some p) ∧ (loadVar t p).run G.P w = .ok (v.conc c) w ∧ v.closed m.length = true ∧ K v m := by
  unfold aload at h
  split at h
  · rename_i i b o ht
    split at h
    · rename_i k hk
      split at h
      · rename_i v hv
        exact ⟨_, v, rfl, run_loadVar (hG.tys _ _ ht) hr hk hv, partV_closed hv (hr.cl b k hk), h⟩
      · cases h
    · cases h
  · rename_i i p ht
    obtain ⟨v, hv, hK⟩ := h
    obtain ⟨h1, h2⟩ := run_loadVar_ext (hG.tys _ _ ht) hr hv
    exact ⟨_, v, rfl, h1, TV.closed_mono (Nat.zero_le _) h2, hK⟩
  · cases h

theorem newOp_some {op : Op} {t : TypeId} {n : Nat} {l : List (Nat × Operand)} (h : newOp op = some (t, n, l)) : ∃ ps, op = .buildSlice t n ps ∧ ps.toList = l := by
  cases op <;> simp [newOp] at h
  obtain ⟨rfl, rfl, rfl⟩ := h
  exact ⟨_, rfl, rfl⟩

theorem repS_closed {n : Nat} {z : List Sc} (h : closedL n z = true) : ∀ k, closedL n (repS k z) = true
  | 0 => rfl
  | k + 1 => closedL_iff.2 fun s hs => by
    simp only [repS, List.mem_append] at hs
    rcases hs with hs | hs
    · exact closedL_iff.1 h s hs
    · exact closedL_iff.1 (repS_closed h k) s hs

theorem repS_length (z : List Sc) : ∀ k, (repS k z).length = k * z.length
  | 0 => by simp [repS]
  | k + 1 => by simp only [repS, List.length_append, repS_length z k, Nat.add_mul, Nat.one_mul]; omega

theorem repS_get (z : List Sc) : ∀ (k j : Nat), j < k * z.length → (repS k z)[j]? = z[j % z.length]?
  | 0, j, h => by simp at h
  | k + 1, j, h => by
    simp only [repS]
    rcases Nat.lt_or_ge j z.length with hj | hj
    · rw [List.getElem?_append_left hj, Nat.mod_eq_of_lt hj]
    · rw [List.getElem?_append_right hj, repS_get z k (j - z.length) (by rw [Nat.add_mul, Nat.one_mul] at h; omega), ← Nat.mod_eq_sub_mod hj]

theorem repS_conc (c : Con) (n es : Nat) (z : List Sc) (hz : z.length = es) :
    ((Array.range (n * es)).map ((if n * es = 0 then #[] else (z.map (Sc.conc c)).toArray)[· % (if n * es = 0 then #[] else (z.map (Sc.conc c)).toArray).size]!)) = ((repS n z).map (Sc.conc c)).toArray := by
  apply Array.ext
  · simp [repS_length, hz]
  · intro j h1 h2
    have hj : j < n * es := by simpa using h1
    have h0 : ¬ n * es = 0 := by omega
    simp only [if_neg h0]
    simp only [Array.getElem_map, Array.getElem_range, List.getElem_toArray, List.getElem_map]
    have hg := repS_get z n j (by rw [hz]; exact hj)
    have hlt : j < (repS n z).length := by rw [repS_length, hz]; exact hj
    rw [List.getElem?_eq_getElem hlt] at hg
    have hpos : 0 < es := Nat.pos_of_ne_zero fun h => by subst h; simp at hj
    have hm : j % es < z.length := by rw [hz]; exact Nat.mod_lt _ hpos
    rw [hz, List.getElem?_eq_getElem hm, Option.some.injEq] at hg
    have hm' : j % es < (z.map (Sc.conc c)).length := by simpa using hm
    simp [hz, hg, List.getElem?_eq_getElem hm]

theorem aop_sound (hG : CfgOk G) (hr : RelM G.W0 c m w) (hf : Fits c m.length e a) {o : Oper} {K : TV → Mem → Prop} (h : aop G o e m K) : OpGoes G o c m a w K := by
  unfold aop at h
  split at h
  · rename_i t ho
    split at h
    · rename_i i ht
      have hrow := hG.tys _ _ ht
      simp only [snoc_eq] at h
      obtain ⟨z, hz1, hz2⟩ := hrow.zero c w
      obtain ⟨h1, h2⟩ := hr.push (t := t) (closedL_mono (Nat.zero_le m.length) hrow.zc)
      refine .of_value ?_ h1 h2 (by simp [TV.closed, Sc.closed, SP.closed]) h
      have : (Con.add c m.length w.heap.size 0).ι m.length = w.heap.size := by simp [Con.add]
      simp [execOp, ho, Instr.alloc, hz1, newVar, newRow, hz2, TV.conc, Sc.conc, SP.conc, this]
    · cases h
  · rename_i t x ho
    split at h
    · rename_i v hv
      split at h
      · rename_i cs hcs
        simp only [snoc_eq] at h
        obtain ⟨h0, hcl⟩ := opv_sound hf hv
        obtain ⟨h1, h2⟩ := hr.push (t := t) (TV.cells_closed hcs hcl)
        refine .of_value ?_ h1 h2 (by simp [TV.closed, Sc.closed, SP.closed]) h
        have : (Con.add c m.length w.heap.size 0).ι m.length = w.heap.size := by simp [Con.add]
        have hcc := TV.cells_conc (c := c) hcs hcl
        simp only [execOp, ho]
        apply run_value'
        simp only [Instr.box, h0, newVar, newRow, hcc, Sem.run_bind, run_newObj, Result.andThen_ok, Sem.run_pure]
        simp [TV.conc, Sc.conc, SP.conc, this]
      · cases h
    · cases h
  · rename_i t x ho
    split at h
    · rename_i v hv
      obtain ⟨h0, hcl⟩ := opv_sound hf hv
      obtain ⟨p, u, hp, hrun, hu, hK⟩ := aload_run hG hr hcl h
      refine .of_value ?_ hr (Since.refl c m w) hu hK
      rw [hp] at h0
      simp only [execOp, ho, h0]
      apply run_value
      simp [Instr.loadAt, Instr.sureAddr, hrun]
    · cases h
  · rename_i t x y ho
    split at h
    · rename_i v u hv hu
      obtain ⟨h0, hcl⟩ := opv_sound hf hv
      obtain ⟨h0', hcl'⟩ := opv_sound hf hu
      split at h
      · rename_i m' hm
        unfold astore at hm
        split at hm
        · rename_i i b o' vs ht hvs
          split at hm
          · rename_i l el es gr hk
            split at hm
            · rename_i hsz
              have hsz := Nat.eq_of_beq_eq_true hsz
              split at hm
              · rename_i cs hput
                simp only [Option.some.injEq] at hm
                subst hm
                obtain ⟨w', hw, h1, h2⟩ := hr.store (P := G.P) hk hput (TV.cells_closed hvs hcl')
                have hrow := hG.tys _ _ ht
                refine .of_skip ?_ h1 h2 h
                have hcc := TV.cells_conc (c := c) hvs hcl'
                have hsv : (storeVar t ⟨c.ι b, o', none⟩ (u.conc c)).run G.P w = .ok () w' := by
                  simp only [storeVar, Sem.run_bind, hrow.size, Result.andThen_ok, hcc]
                  have : ¬ ((vs.map (Sc.conc c)).toArray.size ≠ i.size) := by simp [hsz]
                  simp only [if_neg this]
                  exact hw
                simp only [TV.conc, Sc.conc, Option.map_some, SP.conc] at h0
                simp [execOp, ho, h0, h0', Instr.storeAt, Instr.sureAddr, hsv]
              · cases hm
            · cases hm
          · cases hm
        · cases hm
      · cases h
    · cases h
  · rename_i f xs ts ho
    split at h
    · rename_i vs hvs
      exact acall_sound hG hr hf ho hvs h
    · cases h
  · rename_i xs ts ho
    split at h
    · rename_i vs hvs
      unfold optM at h
      split at h
      · rename_i v m' hc
        unfold acopy at hc
        split at hc
        · rename_i t ts' b o' dl dc b' o'' sl sc hts
          split at hc
          · rename_i el es eb ag l el' es' gr y ht hx hy
            split at hc
            · rename_i us hus
              split at hc
              · rename_i cs hput
                simp only [Option.some.injEq, Prod.mk.injEq] at hc
                obtain ⟨rfl, rfl⟩ := hc
                obtain ⟨hargs, hcl⟩ := getOps_sound hf hvs
                obtain ⟨hu, hie, hue, hse, _, _⟩ := (hG.tys _ _ ht).k
                obtain ⟨eus, hlen⟩ := takeAt_spec hus
                have hul : us.length = Nat.min sl dl * es := by rw [eus]; simp; omega
                have husc : closedL m.length us = true := by
                  rw [eus]
                  exact closedL_iff.2 fun s hs => closedL_iff.1 (hr.cl b' y hy) s (List.mem_of_mem_drop (List.mem_of_mem_take hs))
                obtain ⟨w', hw, h1, h2⟩ := hr.store (P := G.P) hx hput husc
                refine .of_value ?_ h1 h2 rfl h
                have hload : (loadCells ⟨c.ι b', o'', none⟩ (us.map (Sc.conc c)).length).run G.P w = .ok (us.map (Sc.conc c)).toArray w := run_loadCells fun j v hv => by
                  rw [List.getElem?_map] at hv
                  simp only [Option.map_eq_some_iff] at hv
                  obtain ⟨s, hs, rfl⟩ := hv
                  have : y.cells[o'' + j]? = some s := by
                    rw [eus] at hs
                    rw [List.getElem?_take] at hs
                    split at hs
                    · simpa using hs
                    · cases hs
                  have ha : (Addr.mk (c.ι b') o'' none).add j = ⟨c.ι b', o'' + j, none⟩ := by unfold Addr.add; split <;> simp_all
                  rw [ha]
                  exact hr.cell hy this
                have hts0 : ts[0]? = some t := by rw [← Array.getElem?_toList, hts]; rfl
                have hA : xs.map a.eval = #[.slice (some ⟨c.ι b, o', none⟩) dl dc, .slice (some ⟨c.ι b', o'', none⟩) sl sc] := by
                  apply Array.ext'
                  simpa [TV.conc, Sc.conc, SP.conc] using hargs
                have hlen' : (us.map (Sc.conc c)).length = Nat.min sl dl * es := by simp [hul]
                rw [hlen'] at hload
                simp only [execOp, ho, resolve, hA, pure_bind, invoke, builtin]
                apply run_value'
                simp [Builtin.copy_, hts0, r_underlying hu, Builtin.lenOf, Builtin.firstCells, r_sizeOf hie, hse, hload, hw, goInt, TV.conc, Sc.conc]
              · cases hc
            · cases hc
          · cases hc
        · cases hc
      · cases h
    · cases h
  · split at h
    · rename_i t n psl hn
      obtain ⟨ps, ho, rfl⟩ := newOp_some hn
      split at h
      · rename_i vs hvs
        unfold optM at h
        split at h
        · rename_i v m' hc
          unfold abuild at hc
          split at hc
          · rename_i el es _ _ ht
            split at hc
            · rename_i i hi
              split at hc
              · rename_i hle
                obtain ⟨hle, hsz⟩ := of_decide_eq_true hle
                split at hc
                · rename_i cs hcs
                  simp only [snoc_eq, Option.some.injEq, Prod.mk.injEq] at hc
                  obtain ⟨rfl, rfl⟩ := hc
                  obtain ⟨hps, hcl⟩ := opvP_sound hf hvs
                  have hrow := hG.tys _ _ hi
                  obtain ⟨hu, hie, hue, hse, _, _⟩ := (hG.tys _ _ ht).k
                  have hrc : closedL m.length (repS n i.zero) = true := repS_closed (closedL_mono (Nat.zero_le m.length) hrow.zc) n
                  have hcc := fillA_closed es vs _ cs hcs hrc hcl
                  obtain ⟨h1, h2⟩ := hr.push (t := el) hcc
                  refine .of_value ?_ h1 h2 (by simp [TV.closed, Sc.closed, SP.closed]) h
                  obtain ⟨z, hz1, hz2⟩ := hrow.zero c w
                  have hfill := fillA_sound es c vs _ cs hcl hcs
                  have hps' : (ps.map fun p => (p.1, a.eval p.2)).toList = vs.map fun p => (p.1, p.2.conc c) := by
                    rw [Array.toList_map, ← hps]
                  have hrep := repS_conc c n es i.zero hsz
                  have this : (Con.add c m.length w.heap.size 0).ι m.length = w.heap.size := by simp [Con.add]
                  have hgt : ¬ (n * es > 2 ^ 24) := by omega
                  simp only [execOp, ho]
                  apply run_value'
                  by_cases h0 : n * es = 0
                  · simp only [if_pos h0] at hrep
                    simp only [Instr.buildSlice, Sem.run_bind, r_underlying hu, Result.andThen_ok, r_sizeOf hie, hse, if_neg hgt, if_pos h0, Sem.run_pure]
                    rw [show (ps.map fun x => match x with | (i, x) => (i, a.eval x)) = ps.map fun p => (p.1, a.eval p.2) from rfl, hps', hrep, hfill]
                    simp only [newRow, Sem.run_bind, run_newObj, Result.andThen_ok, Sem.run_pure]
                    simp [TV.conc, Sc.conc, SP.conc, this]
                  · simp only [if_neg h0] at hrep
                    simp only [Instr.buildSlice, Sem.run_bind, r_underlying hu, Result.andThen_ok, r_sizeOf hie, hse, if_neg hgt, if_neg h0, Sem.run_pure, hz1, hz2]
                    rw [show (ps.map fun x => match x with | (i, x) => (i, a.eval x)) = ps.map fun p => (p.1, a.eval p.2) from rfl, hps', hrep, hfill]
                    simp only [newRow, Sem.run_bind, run_newObj, Result.andThen_ok, Sem.run_pure]
                    simp [TV.conc, Sc.conc, SP.conc, this]
                · cases hc
              · cases hc
            · cases hc
          · cases hc
        · cases h
      · cases h
    · split at h
      · rename_i v hv
        obtain ⟨h1, h2⟩ := pval_sound hG.tys hf hv
        exact .of_value (h1 w) hr (Since.refl c m w) h2 h
      · cases h

end
end Go.Ev
