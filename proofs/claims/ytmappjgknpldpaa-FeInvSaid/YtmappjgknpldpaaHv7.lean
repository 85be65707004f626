import Derived.Test.YtmappjgknpldpaaHv6
namespace Go.Hv
open Go.Ev
section
variable {G : Cfg} {c : Con} {m : HM} {e e' : Env} {a : Act} {w : World}

theorem bound_some {n : Nat} (hf : Fits c n e a) {x : Operand} {d : Nat} {l : Int} (h : bound e (some x) d = some l) : ∃ k, a.eval x = .int k l := by
  rcases bound_sound hf h with ⟨h1, _⟩ | ⟨k, hk⟩
  · cases h1
  · exact ⟨k, by simpa using hk⟩

theorem pval2_sound {P : Program} {T : Tys} {n : Nat} (hT : TysOk P T) (hf : Fits c n e a) {o : Oper} {v : TV} (h : pval2 T o.op e = some v) : Ev.Yields P c n a o v := by
  obtain ⟨dst, op, ty, pos, after, guard⟩ := o
  simp only at h
  unfold pval2 at h
  split at h
  · rename_i bo t x y t'
    split at h
    · rename_i s1 s2 hx hy
      obtain ⟨h1, _⟩ := opv_sound hf hx
      obtain ⟨h2, _⟩ := opv_sound hf hy
      simp only [Option.some.injEq] at h
      subst h
      refine ⟨fun w => ?_, rfl⟩
      simp only [execOp, h1, h2]
      apply run_value
      simp [TV.conc, Sc.conc, eqGuard, binOp, Op.stringOp]
    · rename_i s1 s2 hx hy
      obtain ⟨h1, _⟩ := opv_sound hf hx
      obtain ⟨h2, _⟩ := opv_sound hf hy
      simp only [Option.some.injEq] at h
      subst h
      refine ⟨fun w => ?_, rfl⟩
      simp only [execOp, h1, h2]
      apply run_value
      simp [TV.conc, Sc.conc, eqGuard, binOp, Op.stringOp]
    · cases h
  · rename_i xs ts
    split at h
    · rename_i k i1 k' i2 hx
      obtain ⟨h1, _⟩ := getOps_sound hf hx
      simp only [Option.some.injEq] at h
      subst h
      refine ⟨fun w => ?_, rfl⟩
      have hA : xs.map a.eval = #[.int k i1, .int k' i2] := by
        apply Array.ext'
        simpa [TV.conc, Sc.conc] using h1
      simp only [execOp, resolve, pure_bind, invoke, builtin]
      apply run_value'
      rw [show (xs.map a.eval) = #[.int k i1, .int k' i2] from hA]
      simp [Builtin.min_, Builtin.min2, TV.conc, Sc.conc]
    · cases h
  · rename_i xs ts
    split at h
    · rename_i t ts' hts
      split at h
      · rename_i _ _ _ _ s ht hx
        obtain ⟨h1, _⟩ := getOps_sound hf hx
        simp only [Option.some.injEq] at h
        subst h
        have hu : P.underlying t = some .string := (hT _ _ ht).k
        refine ⟨fun w => ?_, rfl⟩
        have hA : xs.map a.eval = #[.string s] := by
          apply Array.ext'
          simpa [TV.conc, Sc.conc] using h1
        simp only [execOp, resolve, pure_bind, invoke, builtin]
        apply run_value'
        rw [show (xs.map a.eval) = #[.string s] from hA]
        simp [Builtin.len_, argTypes_at hts, r_underlying hu, TV.conc, Sc.conc, goInt]
      · cases h
    · cases h
  · rename_i t x lo hi mx
    split at h
    · rename_i el es eb ag p len cap ht hx
      split at h
      · rename_i l hh mm hl hhh hm
        split at h
        · rename_i hb
          have hb := of_decide_eq_true hb
          obtain ⟨h1, h2⟩ := opv_sound hf hx
          obtain ⟨hu, hie, hue, hse, _, _⟩ := (hT _ _ ht).k
          obtain ⟨km, hkm⟩ := bound_some hf hm
          obtain ⟨kh, hkh⟩ := bound_some hf hhh
          have hlow : (lo = none ∧ l = 0) ∨ ∃ k, lo.map a.eval = some (.int k l) := by simpa using bound_sound hf hl
          simp only [TV.conc, Sc.conc, Option.map_some] at h1
          have hrun : ∀ w, (Instr.sliceBounds true len cap (lo.map a.eval) (some (a.eval hi)) (some (a.eval mx))).run P w = .ok (l.toNat, hh.toNat, mm.toNat) w := fun w => by
            have e1 : (Instr.sliceBound (.int km mm) cap .slice3Acap).run P w = .ok mm.toNat w := by
              simp [Instr.sliceBound, asIntOf, hb.1, hb.2.1]
            have e2 : (Instr.sliceBound (.int kh hh) mm.toNat .slice3B).run P w = .ok hh.toNat w := by
              simp only [Instr.sliceBound, asIntOf, Sem.run_bind, Sem.run_pure, Result.andThen_ok, Sem.run_ite]
              rw [if_pos ⟨hb.2.2.1, by omega⟩]
            unfold Instr.sliceBounds
            simp only [hkm, hkh, if_true, Sem.run_bind, e1, e2, Result.andThen_ok, Option.isSome_some]
            rcases hlow with ⟨rfl, rfl⟩ | ⟨kl, hkl⟩
            · simp
            · have e3 : (Instr.sliceBound (.int kl l) hh.toNat .slice3C).run P w = .ok l.toNat w := by
                simp only [Instr.sliceBound, asIntOf, Sem.run_bind, Sem.run_pure, Result.andThen_ok, Sem.run_ite]
                rw [if_pos ⟨hb.2.2.2.2.1, by omega⟩]
              simp only [hkl, e3, Sem.run_bind, Result.andThen_ok, Sem.run_pure]
          have hcase : v = .one (.slice (some (if l.toNat = mm.toNat then p else p.add (l.toNat * es))) (hh.toNat - l.toNat) (mm.toNat - l.toNat)) := by
            split at h
            · rename_i hq
              have := Nat.eq_of_beq_eq_true hq
              simp only [Option.some.injEq] at h
              rw [if_pos this, h]
            · rename_i hq
              have : l.toNat ≠ mm.toNat := fun e => by rw [e] at hq; simp at hq
              simp only [Option.some.injEq] at h
              rw [if_neg this, h]
          subst hcase
          refine ⟨fun w => ?_, ?_⟩
          · simp only [execOp, h1, Option.map_some]
            apply run_value
            simp only [Instr.sliceAt]
            simp only [Instr.slice, Sem.run_bind, r_underlying hu, Result.andThen_ok, hrun, r_sizeOf hie, hse, Sem.run_pure, TV.conc, Sc.conc, Option.map_some]
            by_cases hq : l.toNat = mm.toNat
            · simp [hq]
            · have hq' : ¬ mm.toNat = l.toNat := fun e => hq e.symm
              simp [hq, hq', addr_add]
          · simp only [TV.closed, Sc.closed] at h2 ⊢
            split
            · exact h2
            · rw [SP.add_closed]; exact h2
        · cases h
      · cases h
    · cases h
  · rename_i t x lo hi
    split at h
    · rename_i _ _ _ el es eb ag ht hx
      split at h
      · rename_i l hh hl hhh
        split at h
        · rename_i hb
          obtain ⟨rfl, rfl⟩ := of_decide_eq_true hb
          obtain ⟨h1, h2⟩ := opv_sound hf hx
          obtain ⟨hu, hie, hue, hse, _, _⟩ := (hT _ _ ht).k
          simp only [Option.some.injEq] at h
          subst h
          have hrun := fun w => run_sliceBounds (P := P) true (len := 0) (cap := 0) hf hl hhh (by omega) w
          refine ⟨fun w => ?_, rfl⟩
          simp only [TV.conc, Sc.conc, Option.map_none] at h1
          simp only [execOp, h1]
          apply run_value
          simp only [Instr.sliceAt]
          simp only [Instr.slice, Sem.run_bind, r_underlying hu, Result.andThen_ok, hrun, r_sizeOf hie, hse, Sem.run_pure, TV.conc, Sc.conc, Option.map_none]
          simp
        · cases h
      · cases h
    · cases h
  · cases h

theorem pvalH_sound {P : Program} {T : Tys} {n : Nat} (hT : TysOk P T) (hf : Fits c n e a) {o : Oper} {v : TV} (h : pvalH T o.op e = some v) : Ev.Yields P c n a o v := by
  unfold pvalH at h
  split at h
  · rename_i u hu
    simp only [Option.some.injEq] at h
    subst h
    exact pval_sound hT hf hu
  · exact pval2_sound hT hf h

theorem aop_sound (hG : CfgOk G) (hr : Rel G.A c m w) (hf : Fits c m.bs.length e a) {o : Oper} {K : TV → HM → Prop} (h : aop G o e m K) : OpGoes G o c m a w K := by
  unfold aop at h
  split at h
  · rename_i t ho
    split at h
    · rename_i i ht
      have hrow := hG.tys _ _ ht
      simp only [snoc_eq] at h
      obtain ⟨z, hz1, hz2⟩ := hrow.zero c w
      obtain ⟨h1, h2⟩ := hr.push (t := t) (closedL_mono (Nat.zero_le m.bs.length) hrow.zc)
      refine .of_value ?_ h1 h2 (by simp [TV.closed, Sc.closed, SP.closed]) h
      have : (Con.add c m.bs.length w.heap.size 0).ι m.bs.length = w.heap.size := by simp [Con.add]
      simp [execOp, ho, Instr.alloc, hz1, newVar, newRow, hz2, TV.conc, Sc.conc, SP.conc, this]
    · cases h
  · rename_i t x ho
    split at h
    · rename_i v hv
      split at h
      · rename_i cs hcs
        simp only [snoc_eq] at h
        obtain ⟨h0, hcl⟩ := opv_sound hf hv
        obtain ⟨h1, h2⟩ := hr.push (t := t) (TV.cells_closed hcs hcl)
        refine .of_value ?_ h1 h2 (by simp [TV.closed, Sc.closed, SP.closed]) h
        have : (Con.add c m.bs.length w.heap.size 0).ι m.bs.length = w.heap.size := by simp [Con.add]
        have hcc := TV.cells_conc (c := c) hcs hcl
        simp only [execOp, ho]
        apply run_value'
        simp only [Instr.box, h0, newVar, newRow, hcc, Sem.run_bind, run_newObj, Result.andThen_ok, Sem.run_pure]
        simp [TV.conc, Sc.conc, SP.conc, this]
      · cases h
    · cases h
  · rename_i t x ho
    split at h
    · rename_i v hv
      obtain ⟨h0, hcl⟩ := opv_sound hf hv
      obtain ⟨p, u, hp, hrun, hu, hK⟩ := aload_run hG hr hcl h
      refine .of_value ?_ hr (Since.refl c m w) hu hK
      rw [hp] at h0
      simp only [execOp, ho, h0]
      apply run_value
      simp [Instr.loadAt, Instr.sureAddr, hrun]
    · cases h
  · rename_i t x y ho
    split at h
    · rename_i v u hv hu
      obtain ⟨h0, hcl⟩ := opv_sound hf hv
      obtain ⟨h0', hcl'⟩ := opv_sound hf hu
      split at h
      · rename_i m' hm
        unfold astore at hm
        split at hm
        · rename_i i b o' vs ht hvs
          split at hm
          · rename_i l el es gr hk
            split at hm
            · rename_i hsz
              have hsz := Nat.eq_of_beq_eq_true hsz
              split at hm
              · rename_i cs hput
                simp only [Option.some.injEq] at hm
                subst hm
                obtain ⟨w', hw, h1, h2⟩ := hr.store (P := G.P) hk hput (TV.cells_closed hvs hcl')
                have hrow := hG.tys _ _ ht
                refine .of_skip ?_ h1 h2 h
                have hcc := TV.cells_conc (c := c) hvs hcl'
                have hsv : (storeVar t ⟨c.ι b, o', none⟩ (u.conc c)).run G.P w = .ok () w' := by
                  simp only [storeVar, Sem.run_bind, hrow.size, Result.andThen_ok, hcc]
                  have : ¬ ((vs.map (Sc.conc c)).toArray.size ≠ i.size) := by simp [hsz]
                  simp only [if_neg this]
                  exact hw
                simp only [TV.conc, Sc.conc, Option.map_some, SP.conc] at h0
                simp [execOp, ho, h0, h0', Instr.storeAt, Instr.sureAddr, hsv]
              · cases hm
            · cases hm
          · cases hm
        · cases hm
      · cases h
    · cases h
  · rename_i f xs ts ho
    split at h
    · rename_i vs hvs
      exact acall_sound hG hr hf ho hvs h
    · cases h
  · rename_i xs ts ho
    split at h
    · rename_i vs hvs
      exact acopy_sound hG hr hf ho hvs h
    · cases h
  · rename_i xs ts ho
    split at h
    · rename_i vs hvs
      exact aappend_sound hG hr hf ho hvs h
    · cases h
  · rename_i t x y ho
    split at h
    · rename_i u v hu hv
      exact amake_sound hG hr hf ho hu hv h
    · exact h.elim
  · split at h
    · rename_i t n psl hn
      obtain ⟨ps, ho, rfl⟩ := newOp_some hn
      split at h
      · rename_i vs hvs
        unfold optM at h
        split at h
        · rename_i v m' hc
          unfold abuild at hc
          split at hc
          · rename_i el es _ _ ht
            split at hc
            · rename_i i hi
              split at hc
              · rename_i hle
                obtain ⟨hle, hsz⟩ := of_decide_eq_true hle
                split at hc
                · rename_i cs hcs
                  simp only [snoc_eq, Option.some.injEq, Prod.mk.injEq] at hc
                  obtain ⟨rfl, rfl⟩ := hc
                  obtain ⟨hps, hcl⟩ := opvP_sound hf hvs
                  have hrow := hG.tys _ _ hi
                  obtain ⟨hu, hie, hue, hse, _, _⟩ := (hG.tys _ _ ht).k
                  have hrc : closedL m.bs.length (repS n i.zero) = true := repS_closed (closedL_mono (Nat.zero_le m.bs.length) hrow.zc) n
                  have hcc := fillA_closed es vs _ cs hcs hrc hcl
                  obtain ⟨h1, h2⟩ := hr.push (t := el) hcc
                  refine .of_value ?_ h1 h2 (by simp [TV.closed, Sc.closed, SP.closed]) h
                  obtain ⟨z, hz1, hz2⟩ := hrow.zero c w
                  have hfill := fillA_sound es c vs _ cs hcl hcs
                  have hps' : (ps.map fun p => (p.1, a.eval p.2)).toList = vs.map fun p => (p.1, p.2.conc c) := by
                    rw [Array.toList_map, ← hps]
                  have hrep := repS_conc c n es i.zero hsz
                  have this : (Con.add c m.bs.length w.heap.size 0).ι m.bs.length = w.heap.size := by simp [Con.add]
                  have hgt : ¬ (n * es > 2 ^ 24) := by omega
                  simp only [execOp, ho]
                  apply run_value'
                  by_cases h0 : n * es = 0
                  · simp only [if_pos h0] at hrep
                    simp only [Instr.buildSlice, Sem.run_bind, r_underlying hu, Result.andThen_ok, r_sizeOf hie, hse, if_neg hgt, if_pos h0, Sem.run_pure]
                    rw [show (ps.map fun x => match x with | (i, x) => (i, a.eval x)) = ps.map fun p => (p.1, a.eval p.2) from rfl, hps', hrep, hfill]
                    simp only [newRow, Sem.run_bind, run_newObj, Result.andThen_ok, Sem.run_pure]
                    simp [TV.conc, Sc.conc, SP.conc, this]
                  · simp only [if_neg h0] at hrep
                    simp only [Instr.buildSlice, Sem.run_bind, r_underlying hu, Result.andThen_ok, r_sizeOf hie, hse, if_neg hgt, if_neg h0, Sem.run_pure, hz1, hz2]
                    rw [show (ps.map fun x => match x with | (i, x) => (i, a.eval x)) = ps.map fun p => (p.1, a.eval p.2) from rfl, hps', hrep, hfill]
                    simp only [newRow, Sem.run_bind, run_newObj, Result.andThen_ok, Sem.run_pure]
                    simp [TV.conc, Sc.conc, SP.conc, this]
                · cases hc
              · cases hc
            · cases hc
          · cases hc
        · cases h
      · cases h
    · split at h
      · rename_i v hv
        obtain ⟨h1, h2⟩ := pvalH_sound hG.tys hf hv
        exact .of_value (h1 w) hr (Since.refl c m w) h2 h
      · split at h
        · rename_i s d x ho
          split at h
          · rename_i v hv
            exact aconv_sound hG hr hf ho hv h
          · exact h.elim
        · exact h.elim

end
end Go.Hv
