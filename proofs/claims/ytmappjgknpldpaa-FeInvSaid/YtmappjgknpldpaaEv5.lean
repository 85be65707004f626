import Derived.Test.YtmappjgknpldpaaEv4
import Derived.Laws.Small
namespace Go.Ev
section
variable {P : Program} {T : Tys} {c : Con} {n : Nat} {e : Env} {a : Act}

/-- An operation that only computes. -/
def Yields (P : Program) (c : Con) (n : Nat) (a : Act) (o : Oper) (v : TV) : Prop :=
  (∀ w, (execOp a.eval o).run P w = .ok (.value (v.conc c)) w) ∧ v.closed n = true

theorem run_value {s : Sem Value} {v : Value} {w : World} (h : s.run P w = .ok v w) : (do pure (.value (← s)) : Sem Next).run P w = .ok (.value v) w := by
  simp [h]

theorem cell_part {s : Sc} {l : List Sc} {o : Nat} (h : takeAt l o 1 = some [s]) : l[o]? = some s := by
  obtain ⟨e, hlen⟩ := takeAt_spec h
  have hlt : o < l.length := by omega
  have : (l.drop o).take 1 = [l[o]] := by
    rw [List.take_one, List.head?_drop, List.getElem?_eq_getElem hlt]; rfl
  rw [this] at e
  rw [List.getElem?_eq_getElem hlt]
  simpa using e.symm

theorem bop_sound (hT : TysOk P T) {op : BinOp} {t : TypeId} {x y v : TV} (h : bop T op t x y = some v) (X Y : Operand) (w : World) :
    (do eqGuard op t X Y (x.conc c) (y.conc c); binOp op t (x.conc c) (y.conc c) : Sem Value).run P w = .ok (v.conc c) w ∧ ∀ n, v.closed n = true := by
  unfold bop at h
  split at h
  · rename_i k a k' b
    split at h
    · rename_i s hs
      simp only [Option.some.injEq] at h
      subst h
      obtain ⟨h1, h2⟩ := bopI_sound hs t c w
      refine ⟨?_, h2⟩
      have hg : (eqGuard op t X Y (.int k a) (.int k' b)).run P w = .ok () w := by
        unfold eqGuard
        cases op <;> simp
      simp only [TV.conc, Sc.conc, Sem.run_bind, hg, Result.andThen_ok]
      exact h1
    · cases h
  · rename_i a b
    split at h
    · rename_i hk
      simp only [Option.some.injEq] at h
      subst h
      have hu : P.underlying t = some .bool := (hT _ _ hk).k
      refine ⟨?_, fun _ => rfl⟩
      have hg : (eqGuard .eql t X Y (.bool a) (.bool b)).run P w = .ok () w := by simp [eqGuard]
      have hb : binOp .eql t (.bool a) (.bool b) = (do pure (.bool (← Op.equal t (.bool a) (.bool b)))) := rfl
      simp only [TV.conc, Sc.conc, Sem.run_bind, hg, Result.andThen_ok, hb, run_equal_bool w t a b hu, Sem.run_pure]
    · rename_i hk
      simp only [Option.some.injEq] at h
      subst h
      have hu : P.underlying t = some .bool := (hT _ _ hk).k
      refine ⟨?_, fun _ => rfl⟩
      have hg : (eqGuard .neq t X Y (.bool a) (.bool b)).run P w = .ok () w := by simp [eqGuard]
      have hb : binOp .neq t (.bool a) (.bool b) = (do pure (.bool (!(← Op.equal t (.bool a) (.bool b))))) := rfl
      simp only [TV.conc, Sc.conc, Sem.run_bind, hg, Result.andThen_ok, hb, run_equal_bool w t a b hu, Sem.run_pure]
    · cases h
  · rename_i xs ys
    have guardOk : ∀ {i : TyI}, lk T t = some i → i.eqok = true → ∀ op, (eqGuard op t X Y (.agg (xs.map (Sc.conc c)).toArray) (.agg (ys.map (Sc.conc c)).toArray)).run P w = .ok () w := by
      intro i hi hq op
      have := ((hT _ _ hi).eq hq).1
      unfold eqGuard
      cases op <;> simp [this]
    split at h
    · rename_i hk
      split at h
      · rename_i b hb
        simp only [Option.some.injEq] at h
        subst h
        have he := ((hT _ _ hk).eq rfl).2 xs ys b c w hb
        refine ⟨?_, fun _ => rfl⟩
        have hb' : binOp .eql t (.agg (xs.map (Sc.conc c)).toArray) (.agg (ys.map (Sc.conc c)).toArray) = (do pure (.bool (← Op.equal t (.agg (xs.map (Sc.conc c)).toArray) (.agg (ys.map (Sc.conc c)).toArray)))) := rfl
        simp only [TV.conc, Sem.run_bind, guardOk hk rfl, Result.andThen_ok, hb', he, Sem.run_pure, Sc.conc]
      · cases h
    · rename_i hk
      split at h
      · rename_i b hb
        simp only [Option.some.injEq] at h
        subst h
        have he := ((hT _ _ hk).eq rfl).2 xs ys b c w hb
        refine ⟨?_, fun _ => rfl⟩
        have hb' : binOp .neq t (.agg (xs.map (Sc.conc c)).toArray) (.agg (ys.map (Sc.conc c)).toArray) = (do pure (.bool (!(← Op.equal t (.agg (xs.map (Sc.conc c)).toArray) (.agg (ys.map (Sc.conc c)).toArray))))) := rfl
        simp only [TV.conc, Sem.run_bind, guardOk hk rfl, Result.andThen_ok, hb', he, Sem.run_pure, Sc.conc]
      · cases h
    · cases h
  · cases h

theorem uop_sound {op : UnOp} {x v : TV} (h : uop op x = some v) (w : World) : (Op.unary op (x.conc c)).run P w = .ok (v.conc c) w ∧ ∀ n, v.closed n = true := by
  unfold uop at h
  split at h
  · simp only [Option.some.injEq] at h
    subst h
    exact ⟨by simp [TV.conc, Sc.conc, Op.unary], fun _ => rfl⟩
  · simp only [Option.some.injEq] at h
    subst h
    exact ⟨by simp only [TV.conc, wr_conc]; simp [Sc.conc, Op.unary, Op.intArith], fun _ => wr_closed _ _ _⟩
  · split at h
    · rename_i r hr
      simp only [bits, Option.some.injEq] at hr h
      subst h; subst hr
      exact ⟨by simp [TV.conc, Sc.conc, Op.unary, Op.intBits], fun _ => rfl⟩
    · cases h
  · cases h

theorem bound_sound (hf : Fits c n e a) {x : Option Operand} {d : Nat} {l : Int} (h : bound e x d = some l) :
    (x = none ∧ l = d) ∨ ∃ k, x.map a.eval = some (.int k l) := by
  unfold bound at h
  split at h
  · left; simpa using h.symm
  · rename_i y
    right
    split at h
    · rename_i k m hy
      simp only [Option.some.injEq] at h
      subst h
      obtain ⟨he, _⟩ := opv_sound hf hy
      exact ⟨k, by simp [he, TV.conc, Sc.conc]⟩
    · cases h

theorem run_sliceBounds (isSlice : Bool) {len cap : Nat} (hf : Fits c n e a) {lo hi : Option Operand} {l h : Int} (hl : bound e lo 0 = some l) (hh : bound e hi len = some h)
    (hb : 0 ≤ h ∧ h ≤ (cap : Int) ∧ 0 ≤ l ∧ l ≤ h) (w : World) :
    (Instr.sliceBounds isSlice len cap (lo.map a.eval) (hi.map a.eval) none).run P w = .ok (l.toNat, h.toNat, cap) w := by
  have h2 : l ≤ (h.toNat : Int) := by omega
  unfold Instr.sliceBounds
  rcases bound_sound hf hh with ⟨rfl, rfl⟩ | ⟨k, hk⟩
  · rcases bound_sound hf hl with ⟨rfl, rfl⟩ | ⟨k', hk'⟩
    · simp
    · simp only [Option.map_none, hk']
      simp [Instr.sliceBound, asIntOf, hb.2.2.1, hb.2.2.2]
  · rcases bound_sound hf hl with ⟨rfl, rfl⟩ | ⟨k', hk'⟩
    · simp only [Option.map_none, hk]
      simp [Instr.sliceBound, asIntOf, hb.1, hb.2.1]
    · simp only [hk, hk']
      have h3 : (h.toNat : Int) = h := by omega
      have e1 : (Instr.sliceBound (.int k h) cap (if isSlice = true then BoundsCode.sliceAcap else BoundsCode.sliceAlen)).run P w = .ok h.toNat w := by
        simp [Instr.sliceBound, asIntOf, hb.1, hb.2.1]
      have e2 : (Instr.sliceBound (.int k' l) h.toNat BoundsCode.sliceB).run P w = .ok l.toNat w := by
        simp only [Instr.sliceBound, asIntOf, Sem.run_bind, Sem.run_pure, Result.andThen_ok, Sem.run_ite]
        rw [if_pos ⟨hb.2.2.1, h2⟩]
      simp only [Sem.run_bind, Sem.run_pure, Result.andThen_ok, e1]
      simp [e2]

theorem pval_sound (hT : TysOk P T) (hf : Fits c n e a) {o : Oper} {v : TV} (h : pval T o.op e = some v) : Yields P c n a o v := by
  obtain ⟨dst, op, ty, pos, after, guard⟩ := o
  simp only at h
  cases op with
  | move x =>
    obtain ⟨h1, h2⟩ := opv_sound hf h
    exact ⟨fun w => by simp [execOp, h1], h2⟩
  | assign x =>
    obtain ⟨h1, h2⟩ := opv_sound hf h
    exact ⟨fun w => by simp [execOp, h1], h2⟩
  | pick cx x y =>
    simp only [pval] at h
    split at h
    · rename_i hc
      obtain ⟨h0, _⟩ := opv_sound hf hc
      obtain ⟨h1, h2⟩ := opv_sound hf h
      exact ⟨fun w => by simp [execOp, h0, h1, TV.conc, Sc.conc, asBool], h2⟩
    · rename_i hc
      obtain ⟨h0, _⟩ := opv_sound hf hc
      obtain ⟨h1, h2⟩ := opv_sound hf h
      exact ⟨fun w => by simp [execOp, h0, h1, TV.conc, Sc.conc, asBool], h2⟩
    · cases h
  | nilCheck x =>
    simp only [pval] at h
    split at h
    · rename_i p hx
      obtain ⟨h1, h2⟩ := opv_sound hf hx; simp only [TV.conc, Sc.conc] at h1
      simp only [Option.some.injEq] at h
      subst h
      exact ⟨fun w => by simp [execOp, h1, TV.conc, Sc.conc], h2⟩
    · cases h
  | binOp bo t x y t' =>
    simp only [pval] at h
    split at h
    · rename_i u v hx hy
      obtain ⟨h1, _⟩ := opv_sound hf hx
      obtain ⟨h2, _⟩ := opv_sound hf hy
      have := fun w => bop_sound (c := c) hT h x y w
      refine ⟨fun w => ?_, (this default).2 n⟩
      simp only [execOp, h1, h2]
      exact run_value (this w).1
    · cases h
  | unOp uo t x =>
    simp only [pval] at h
    split at h
    · rename_i u hx
      obtain ⟨h1, _⟩ := opv_sound hf hx
      have := fun w => uop_sound (P := P) (c := c) h w
      refine ⟨fun w => ?_, (this default).2 n⟩
      simp only [execOp, h1]
      exact run_value (this w).1
    · cases h
  | convert s d x =>
    simp only [pval] at h
    split at h
    · rename_i k' _ k hs hd hx
      obtain ⟨h1, _⟩ := opv_sound hf hx; simp only [TV.conc, Sc.conc] at h1
      simp only [Option.some.injEq] at h
      subst h
      have hu : P.underlying d = some (.int k') := (hT _ _ hd).k
      obtain ⟨ds, hds⟩ := Option.isSome_iff_exists.1 (hT _ _ hs).und
      refine ⟨fun w => ?_, by simp [TV.closed, wr_closed]⟩
      simp only [execOp, h1]
      apply run_value
      simp only [TV.conc, wr_conc]
      simp only [convert, Sem.run_bind, r_underlying hds, r_underlying hu, Result.andThen_ok]
      cases ds <;> simp [Conv.intToInt]
    · cases h
  | extract x i =>
    simp only [pval] at h
    split at h
    · rename_i l hx
      split at h
      · rename_i u hu
        obtain ⟨h1, h2⟩ := opv_sound hf hx; simp only [TV.conc] at h1
        simp only [Option.some.injEq] at h
        subst h
        have := nthC_spec hu
        refine ⟨fun w => ?_, ?_⟩
        · simp only [execOp, h1]
          apply run_value
          simp [Instr.extract, this, TC.tv_conc]
        · rw [TC.tv_closed]
          exact closedT_iff.1 h2 u (List.mem_of_getElem? this)
      · cases h
    · cases h
  | fieldAddr s x f =>
    simp only [pval] at h
    split at h
    · rename_i fs p hs hx
      split at h
      · rename_i off size ag hj
        obtain ⟨h1, h2⟩ := opv_sound hf hx; simp only [TV.conc] at h1
        simp only [Option.some.injEq] at h
        subst h
        obtain ⟨F, y, hu, hy, rfl, hsz, hag, hi, hui, hne⟩ := (hT _ _ hs).k.field hj
        refine ⟨fun w => ?_, ?_⟩
        · simp only [execOp, h1]
          apply run_value
          simp [Instr.fieldAt, r_underlying hu, hy, Instr.sureAddr, TV.conc, Sc.conc, fieldPlace, r_sizeOf hi, hne, addr_add]
        · simpa [TV.closed, Sc.closed, SP.add_closed] using h2
      · cases h
    · cases h
  | field s x f =>
    simp only [pval] at h
    split at h
    · rename_i fs l hs hx
      split at h
      · rename_i off size ag hj
        obtain ⟨h1, h2⟩ := opv_sound hf hx; simp only [TV.conc] at h1
        obtain ⟨F, y, hu, hy, rfl, hsz, hag, hi, hui, hne⟩ := (hT _ _ hs).k.field hj
        refine ⟨fun w => ?_, partV_closed h h2⟩
        simp only [execOp, h1]
        apply run_value
        simp [Instr.field, r_underlying hu, hy, asAgg, part_sound hui hi hsz hag h]
      · cases h
    · cases h
  | indexAddr t x i =>
    simp only [pval] at h
    split at h
    · rename_i len es ag p j k ht hx hi
      split at h
      · rename_i hb
        have hb := of_decide_eq_true hb
        obtain ⟨h1, h2⟩ := opv_sound hf hx; simp only [TV.conc] at h1
        obtain ⟨h3, _⟩ := opv_sound hf hi; simp only [TV.conc, Sc.conc] at h3
        simp only [Option.some.injEq] at h
        subst h
        obtain ⟨el, hu, hie, hue, hse, hae⟩ := (hT _ _ ht).k
        refine ⟨fun w => ?_, ?_⟩
        · simp only [execOp, h1, h3]
          apply run_value
          simp [Instr.indexAt, asIntOf, TV.conc, Sc.conc, r_underlying hu, Instr.sureAddr, hb, r_sizeOf hie, hse, addr_add]
        · simpa [TV.closed, Sc.closed, SP.add_closed] using h2
      · cases h
    · rename_i el es eb ag p len cap j k ht hx hi
      split at h
      · rename_i hb
        have hb := of_decide_eq_true hb
        obtain ⟨h1, h2⟩ := opv_sound hf hx; simp only [TV.conc] at h1
        obtain ⟨h3, _⟩ := opv_sound hf hi; simp only [TV.conc, Sc.conc] at h3
        simp only [Option.some.injEq] at h
        subst h
        obtain ⟨hu, hie, hue, hse, _, hae⟩ := (hT _ _ ht).k
        refine ⟨fun w => ?_, ?_⟩
        · simp only [execOp, h1, h3]
          apply run_value
          simp [Instr.indexAt, asIntOf, TV.conc, Sc.conc, r_underlying hu, Instr.sureAddr, hb, r_sizeOf hie, hse, addr_add]
        · simpa [TV.closed, Sc.closed, SP.add_closed] using h2
      · cases h
    · rename_i el es eb ag b len j k ht hx hi
      split at h
      · rename_i hb
        have hb := of_decide_eq_true hb
        obtain ⟨h1, h2⟩ := opv_sound hf hx; simp only [TV.conc] at h1
        obtain ⟨h3, _⟩ := opv_sound hf hi; simp only [TV.conc, Sc.conc] at h3
        simp only [Option.some.injEq] at h
        subst h
        obtain ⟨hu, hie, hue, hse, _, hae⟩ := (hT _ _ ht).k
        refine ⟨fun w => ?_, ?_⟩
        · simp only [execOp, h1, h3]
          apply run_value
          simp [Instr.indexAt, asIntOf, TV.conc, Sc.conc, r_underlying hu, Instr.sureAddr, hb, r_sizeOf hie, hse, SP.conc, Addr.add]
          intro h0; rw [h0]
        · simpa [TV.closed, Sc.closed, SP.closed] using h2
      · cases h
    · cases h
  | index t x i =>
    simp only [pval] at h
    split at h
    · rename_i len es ag l j k ht hx hi
      split at h
      · rename_i hb
        have hb := of_decide_eq_true hb
        obtain ⟨h1, h2⟩ := opv_sound hf hx; simp only [TV.conc] at h1
        obtain ⟨h3, _⟩ := opv_sound hf hi; simp only [TV.conc, Sc.conc] at h3
        obtain ⟨el, hu, hie, hue, hse, hae⟩ := (hT _ _ ht).k
        refine ⟨fun w => ?_, partV_closed h h2⟩
        simp only [execOp, h1, h3]
        apply run_value
        simp [Instr.index, asIntOf, r_underlying hu, hb, r_sizeOf hie, hse, part_sound hue hie hse hae h]
      · cases h
    · cases h
  | build t ps =>
    simp only [pval] at h
    split at h
    · rename_i z _ fs vs ht hp
      split at h
      · rename_i l hl
        simp only [Option.some.injEq] at h
        subst h
        obtain ⟨hps, hcl⟩ := opvP_sound hf hp
        have hrow := hT _ _ ht
        refine ⟨fun w => ?_, fillS_closed fs vs z l hl (closedL_mono (Nat.zero_le n) hrow.zc) hcl⟩
        obtain ⟨zv, hz1, hz2⟩ := hrow.zero c w
        obtain ⟨F, hu, hF, hall⟩ := hrow.k
        have hplace : ∀ (ws : World) (L : List Field), L.all (fun x => (P.info? x.type).isSome && (P.underlying x.type).isSome && P.cellsOf x.type != 0) = true →
            (L.mapM (fun f => do pure (f.offset, ← sizeOf f.type) : Field → Sem (Nat × Nat))).run P ws = .ok (L.map fun f => (f.offset, P.cellsOf f.type)) ws := by
          intro ws L
          induction L with
          | nil => intro _; simp
          | cons f L ih =>
            intro hL
            simp only [List.all_cons, Bool.and_eq_true] at hL
            rw [List.mapM_cons]
            simp only [Sem.run_bind, r_sizeOf hL.1.1.1, Result.andThen_ok, Sem.run_pure]
            rw [ih hL.2]
            simp
        have hpl : (F.mapM (fun f => do pure (f.offset, ← sizeOf f.type) : Field → Sem (Nat × Nat))).run P w = .ok (F.map fun f => (f.offset, P.cellsOf f.type)) w := by
          have h0 := hplace w F.toList hall
          rw [Array.mapM_eq_mapM_toList]
          simp only [Sem.run_map, h0, Result.andThen_ok]
          congr 1
          apply Array.ext'
          simp
        have hfill := fillS_sound fs (fun i => (F.map fun f => (f.offset, P.cellsOf f.type))[i]?) (by
          intro j off size ag hj
          have hj := nthF_spec hj
          rw [← hF, List.getElem?_map] at hj
          simp only [Array.getElem?_toList, Option.map_eq_some_iff, Prod.mk.injEq] at hj
          obtain ⟨x, hx, e1, e2, _⟩ := hj
          simp [hx, e1, e2]) c vs z l hcl hl
        have hps' : (ps.map fun p => (p.1, a.eval p.2)).toList = vs.map fun p => (p.1, p.2.conc c) := by
          rw [Array.toList_map, ← hps]
        simp only [execOp]
        apply run_value
        simp only [Instr.build, Sem.run_bind, hz1, Result.andThen_ok, r_underlying hu, hpl, hz2]
        rw [show (ps.map fun x => match x with | (i, x) => (i, a.eval x)) = ps.map fun p => (p.1, a.eval p.2) from rfl, hps', hfill]
        simp [TV.conc]
      · cases h
    · rename_i z _ len es ag vs ht hp
      split at h
      · rename_i l hl
        simp only [Option.some.injEq] at h
        subst h
        obtain ⟨hps, hcl⟩ := opvP_sound hf hp
        have hrow := hT _ _ ht
        refine ⟨fun w => ?_, fillA_closed es vs z l hl (closedL_mono (Nat.zero_le n) hrow.zc) hcl⟩
        obtain ⟨zv, hz1, hz2⟩ := hrow.zero c w
        obtain ⟨el, hu, hie, hue, hse, hae⟩ := hrow.k
        have hfill := fillA_sound es c vs z l hcl hl
        have hps' : (ps.map fun p => (p.1, a.eval p.2)).toList = vs.map fun p => (p.1, p.2.conc c) := by
          rw [Array.toList_map, ← hps]
        simp only [execOp]
        apply run_value
        simp only [Instr.build, Sem.run_bind, hz1, Result.andThen_ok, r_underlying hu, r_sizeOf hie, hse, hz2]
        rw [show (ps.map fun x => match x with | (i, x) => (i, a.eval x)) = ps.map fun p => (p.1, a.eval p.2) from rfl, hps', hfill]
        simp [TV.conc]
      · cases h
    · cases h
  | sliceToArrayPointer t x =>
    simp only [pval] at h
    split at h
    · rename_i len es ag p l cap ht hx
      split at h
      · rename_i hb
        have hb := Nat.le_of_ble_eq_true hb
        obtain ⟨h1, h2⟩ := opv_sound hf hx; simp only [TV.conc] at h1
        simp only [Option.some.injEq] at h
        subst h
        obtain ⟨el, hu, hie, hue, hse, hae⟩ := (hT _ _ ht).k
        refine ⟨fun w => ?_, ?_⟩
        · simp only [execOp, h1]
          apply run_value
          simp [Instr.arrayAt, r_underlying hu, TV.conc, Sc.conc, Nat.not_lt.2 hb]
        · cases p with
          | none => simp [TV.closed, Sc.closed]
          | some _ => simpa [TV.closed, Sc.closed] using h2
      · cases h
    · cases h
  | slice t x lo hi mx =>
    cases mx with
    | some m => simp [pval] at h
    | none =>
      simp only [pval] at h
      split at h
      · rename_i len es ag p ht hx
        split at h
        · rename_i l hh hl hhi
          split at h
          · rename_i hb
            have hb := of_decide_eq_true hb
            obtain ⟨h1, h2⟩ := opv_sound hf hx; simp only [TV.conc] at h1
            obtain ⟨el, hu, hie, hue, hse, hae⟩ := (hT _ _ ht).k
            have hsb := fun w => run_sliceBounds (P := P) false hf hl hhi hb w
            split at h
            · rename_i hq
              have hq := Nat.eq_of_beq_eq_true hq
              simp only [Option.some.injEq] at h
              subst h
              refine ⟨fun w => ?_, by simpa [TV.closed, Sc.closed] using h2⟩
              simp only [execOp, h1]
              apply run_value
              simp [Instr.sliceAt, r_underlying hu, Instr.sureAddr, hsb, r_sizeOf hie, hse, hq, TV.conc, Sc.conc]
            · rename_i hq
              have hq : ¬ len = l.toNat := fun e => by rw [← e] at hq; simp at hq
              simp only [Option.some.injEq] at h
              subst h
              refine ⟨fun w => ?_, by simpa [TV.closed, Sc.closed, SP.add_closed] using h2⟩
              simp only [execOp, h1]
              apply run_value
              simp [Instr.sliceAt, r_underlying hu, Instr.sureAddr, hsb, r_sizeOf hie, hse, hq, addr_add, TV.conc, Sc.conc]
          · cases h
        · cases h
      · rename_i el es eb ag p len cap ht hx
        split at h
        · rename_i l hh hl hhi
          split at h
          · rename_i hb
            have hb := of_decide_eq_true hb
            obtain ⟨h1, h2⟩ := opv_sound hf hx; simp only [TV.conc] at h1
            obtain ⟨hu, hie, hue, hse, _, hae⟩ := (hT _ _ ht).k
            have hsb := fun w => run_sliceBounds (P := P) true hf hl hhi hb.2 w
            split at h
            · rename_i hq
              have hq := Nat.eq_of_beq_eq_true hq
              simp only [Option.some.injEq] at h
              subst h
              refine ⟨fun w => ?_, by simpa [TV.closed, Sc.closed] using h2⟩
              simp only [execOp, h1]
              apply run_value
              simp [Instr.sliceAt, Instr.slice, r_underlying hu, hsb, r_sizeOf hie, hse, hq, TV.conc, Sc.conc]
            · rename_i hq
              have hq : ¬ cap = l.toNat := fun e => by rw [← e] at hq; simp at hq
              simp only [Option.some.injEq] at h
              subst h
              refine ⟨fun w => ?_, by simpa [TV.closed, Sc.closed, SP.add_closed] using h2⟩
              simp only [execOp, h1]
              apply run_value
              simp [Instr.sliceAt, Instr.slice, r_underlying hu, hsb, r_sizeOf hie, hse, hq, addr_add, TV.conc, Sc.conc]
          · cases h
        · cases h
      · cases h
  | call cl =>
    obtain ⟨callee, xs, ts⟩ := cl
    cases callee with
    | builtin b =>
      cases b
      case len =>
        simp only [pval] at h
        split at h
        · rename_i t ts' hts
          have hts0 : ts[0]? = some t := by rw [← Array.getElem?_toList, hts]; rfl
          have hargs : ∀ {u : TV}, getOps e xs.toList = some [u] → (xs.map a.eval) = #[u.conc c] := fun {u} hg => by
            have := (getOps_sound hf hg).1
            apply Array.ext'
            simpa using this
          split at h
          · rename_i el es eb ag p len cap ht hg
            simp only [Option.some.injEq] at h
            subst h
            obtain ⟨hu, _⟩ := (hT _ _ ht).k
            have ha := hargs hg
            refine ⟨fun w => ?_, rfl⟩
            simp [execOp, resolve, invoke, builtin, ha, Builtin.len_, hts0, r_underlying hu, TV.conc, Sc.conc, goInt]
          · rename_i el es eb ag p len ht hg
            simp only [Option.some.injEq] at h
            subst h
            obtain ⟨hu, _⟩ := (hT _ _ ht).k
            have ha := hargs hg
            refine ⟨fun w => ?_, rfl⟩
            simp [execOp, resolve, invoke, builtin, ha, Builtin.len_, hts0, r_underlying hu, TV.conc, Sc.conc, goInt]
          · cases h
        · cases h
      all_goals simp [pval] at h
    | _ => simp [pval] at h
  | _ => simp [pval] at h

end
end Go.Ev
