import Derived.Test.YtmappjgknpldpaaEv2
namespace Go.Ev

def isAggB (P : Program) (t : TypeId) : Bool :=
  match P.underlying t with
  | some (.struct _) | some (.array _ _) => true
  | _ => false

def KRow (P : Program) (t : TypeId) : TK → Prop
  | .struct fs => ∃ f : Array Field, P.underlying t = some (.struct f) ∧ f.toList.map (fun x => (x.offset, P.cellsOf x.type, isAggB P x.type)) = fs ∧
      f.toList.all (fun x => (P.info? x.type).isSome && (P.underlying x.type).isSome && P.cellsOf x.type != 0) = true
  | .array n es ag => ∃ e, P.underlying t = some (.array n e) ∧ (P.info? e).isSome = true ∧ (P.underlying e).isSome = true ∧ P.cellsOf e = es ∧ isAggB P e = ag
  | .slice e es eb ag => P.underlying t = some (.slice e) ∧ (P.info? e).isSome = true ∧ (P.underlying e).isSome = true ∧ P.cellsOf e = es ∧ P.bytesOf e = eb ∧ isAggB P e = ag
  | .int k => P.underlying t = some (.int k)
  | .bool => P.underlying t = some .bool
  | .string => P.underlying t = some .string
  | .other => True

/-- '==' on aggregates of this type is cell by cell. -/
def EqRow (P : Program) (t : TypeId) (z : List Sc) : Prop :=
  P.eqGuardType P.depth t = false ∧ ∀ (xs ys : List Sc) (b : Bool) (c : Con) (w : World), eqCells z xs ys = some b →
    (Op.equal t (.agg (xs.map (Sc.conc c)).toArray) (.agg (ys.map (Sc.conc c)).toArray)).run P w = .ok b w

structure RowOk (P : Program) (t : TypeId) (i : TyI) : Prop where
  info : (P.info? t).map (fun f => (f.size, f.zero.map Value.cells)) = some (i.size, some (i.zero.map (Sc.conc Con0)).toArray)
  zc : closedL 0 i.zero = true
  und : (P.underlying t).isSome = true
  agg : isAggB P t = i.agg
  k : KRow P t i.k
  eq : i.eqok = true → EqRow P t i.zero

def TysOk (P : Program) (T : Tys) : Prop := ∀ t i, lk T t = some i → RowOk P t i

theorem lk_mem : ∀ {T : Tys} {t : Nat} {i : TyI}, lk T t = some i → (t, i) ∈ T
  | [], t, i, h => by simp [lk] at h
  | (u, j) :: T, t, i, h => by
    simp only [lk] at h
    split at h
    · rename_i hb
      have : u = t := Nat.eq_of_beq_eq_true hb
      subst this
      simp only [Option.some.injEq] at h
      subst h; simp
    · exact List.mem_cons_of_mem _ (lk_mem h)

theorem tysOk_of {P : Program} {T : Tys} (h : ∀ r ∈ T, RowOk P r.1 r.2) : TysOk P T := fun t i hl => h (t, i) (lk_mem hl)

section
variable {P : Program}

theorem r_underlying {t : TypeId} {d : TypeDesc} (h : P.underlying t = some d) (w : World) : (underlying t).run P w = .ok d w := by
  simp [underlying, h]

theorem r_typeInfo {t : TypeId} {i : TypeInfo} (h : P.info? t = some i) (w : World) : (typeInfo t).run P w = .ok i w := by
  simp [typeInfo, h]

theorem r_sizeOf {t : TypeId} (h : (P.info? t).isSome = true) (w : World) : (sizeOf t).run P w = .ok (P.cellsOf t) w := by
  obtain ⟨i, hi⟩ := Option.isSome_iff_exists.1 h
  simp [sizeOf, r_typeInfo hi, Program.cellsOf, hi]

theorem r_isAgg {t : TypeId} (h : (P.underlying t).isSome = true) (w : World) : (isAgg t).run P w = .ok (isAggB P t) w := by
  obtain ⟨d, hd⟩ := Option.isSome_iff_exists.1 h
  simp only [isAgg, isAggB, Sem.run_bind, r_underlying hd, Result.andThen_ok, hd]
  cases d <;> simp

theorem RowOk.size {t : TypeId} {i : TyI} (h : RowOk P t i) (w : World) : (sizeOf t).run P w = .ok i.size w := by
  have := h.info
  cases hi : P.info? t with
  | none => simp [hi] at this
  | some f =>
    rw [hi] at this
    simp only [Option.map_some, Option.some.injEq, Prod.mk.injEq] at this
    rw [r_sizeOf (by simp [hi])]
    simp [Program.cellsOf, hi, this.1]

theorem RowOk.isAgg {t : TypeId} {i : TyI} (h : RowOk P t i) (w : World) : (Go.isAgg t).run P w = .ok i.agg w := by
  rw [r_isAgg h.und, h.agg]

theorem RowOk.zero {t : TypeId} {i : TyI} (h : RowOk P t i) (c : Con) (w : World) : ∃ z, (zeroValue t).run P w = .ok z w ∧ z.cells = (i.zero.map (Sc.conc c)).toArray := by
  have := h.info
  cases hi : P.info? t with
  | none => simp [hi] at this
  | some f =>
    rw [hi] at this
    simp only [Option.map_some, Option.some.injEq, Prod.mk.injEq] at this
    obtain ⟨_, h2⟩ := this
    cases hz : f.zero with
    | none => simp [hz] at h2
    | some z =>
      rw [hz] at h2
      simp only [Option.map_some, Option.some.injEq] at h2
      refine ⟨z, by simp [zeroValue, r_typeInfo hi, hz], ?_⟩
      rw [h2, concL_agree (n := 0) (c := Con0) (c' := c) (fun b hb => absurd hb (Nat.not_lt_zero b)) h.zc]

theorem take_extract (l : List Value) (o n : Nat) : l.toArray.extract o (o + n) = ((l.drop o).take n).toArray := by
  apply Array.ext'
  simp [List.extract]

theorem part_sound {t : TypeId} {ag : Bool} {size : Nat} (hu : (P.underlying t).isSome = true) (hi : (P.info? t).isSome = true) (hs : P.cellsOf t = size) (ha : isAggB P t = ag)
    {l : List Sc} {o : Nat} {v : TV} (h : partV ag size l o = some v) (c : Con) (w : World) : (part t (l.map (Sc.conc c)).toArray o).run P w = .ok (v.conc c) w := by
  unfold partV at h
  cases ag with
  | true =>
    simp only at h
    split at h
    · rename_i r hr
      obtain ⟨rfl, hlen⟩ := takeAt_spec hr
      simp only [Option.some.injEq] at h
      subst h
      simp only [part, Sem.run_bind, r_isAgg hu, ha, Result.andThen_ok, if_true, r_sizeOf hi, Sem.run_pure, hs]
      rw [take_extract]
      simp [TV.conc, List.map_take, List.map_drop]
    · cases h
  | false =>
    simp only at h
    split at h
    · rename_i s hr
      obtain ⟨e, hlen⟩ := takeAt_spec hr
      simp only [Option.some.injEq] at h
      subst h
      have hlt : o < l.length := by omega
      have hs' : l[o] = s := by
        have : (l.drop o).take 1 = [l[o]] := by
          rw [List.take_one, List.head?_drop, List.getElem?_eq_getElem hlt]; rfl
        rw [this] at e
        simpa using e.symm
      simp only [part, Sem.run_bind, r_isAgg hu, ha, Result.andThen_ok]
      simp [hlt, hs', TV.conc]
    · cases h

theorem partV_closed {ag : Bool} {size : Nat} {l : List Sc} {o n : Nat} {v : TV} (h : partV ag size l o = some v) (hc : closedL n l = true) : v.closed n = true := by
  unfold partV at h
  have sub : ∀ {k r}, takeAt l o k = some r → closedL n r = true := fun {k r} hr => by
    obtain ⟨rfl, _⟩ := takeAt_spec hr
    exact closedL_iff.2 fun s hs => closedL_iff.1 hc s (List.mem_of_mem_drop (List.mem_of_mem_take hs))
  cases ag with
  | true =>
    simp only at h
    split at h
    · rename_i r hr
      simp only [Option.some.injEq] at h
      subst h
      exact sub hr
    · cases h
  | false =>
    simp only at h
    split at h
    · rename_i s hr
      simp only [Option.some.injEq] at h
      subst h
      have := sub hr
      simpa [closedL_iff, TV.closed] using this
    · cases h

theorem nthF_spec : ∀ {fs : List (Nat × Nat × Bool)} {j : Nat} {x}, nthF fs j = some x → fs[j]? = some x
  | [], _, _, h => by simp [nthF] at h
  | _ :: _, 0, _, h => by simpa [nthF] using h
  | _ :: fs, j + 1, _, h => by simp only [nthF] at h; simpa using nthF_spec h

theorem nthC_spec : ∀ {fs : List TC} {j : Nat} {x}, nthC fs j = some x → fs[j]? = some x
  | [], _, _, h => by simp [nthC] at h
  | _ :: _, 0, _, h => by simpa [nthC] using h
  | _ :: fs, j + 1, _, h => by simp only [nthC] at h; simpa using nthC_spec h

/-- A struct's field. -/
theorem KRow.field {t : TypeId} {fs : List (Nat × Nat × Bool)} (h : KRow P t (.struct fs)) {j off size : Nat} {ag : Bool} (hj : nthF fs j = some (off, size, ag)) :
    ∃ (f : Array Field) (x : Field), P.underlying t = some (.struct f) ∧ f[j]? = some x ∧ x.offset = off ∧ P.cellsOf x.type = size ∧ isAggB P x.type = ag ∧
      (P.info? x.type).isSome = true ∧ (P.underlying x.type).isSome = true ∧ P.cellsOf x.type ≠ 0 := by
  obtain ⟨f, h1, rfl, h3⟩ := h
  have hj := nthF_spec hj
  rw [List.getElem?_map] at hj
  simp only [Array.getElem?_toList, Option.map_eq_some_iff, Prod.mk.injEq] at hj
  obtain ⟨x, hx, e1, e2, e3⟩ := hj
  have hm : x ∈ f.toList := by
    have := Array.mem_of_getElem? hx
    simpa using this
  have := List.all_eq_true.1 h3 x hm
  simp only [Bool.and_eq_true, bne_iff_ne, ne_eq] at this
  exact ⟨f, x, h1, hx, e1, e2, e3, this.1.1, this.1.2, this.2⟩

theorem addr_add {c : Con} {p : SP} {n : Nat} : (p.conc c).add n = (p.add n).conc c := by
  cases p with
  | loc b o => simp only [SP.conc, SP.add, Addr.add]; split <;> simp_all
  | ext a => rfl

theorem SP.add_closed {p : SP} {n k : Nat} : (p.add k).closed n = p.closed n := by cases p <;> rfl

/-- The values of 'wr'. -/
theorem wr_conc (c : Con) (k : IntKind) (n : Int) : (wr k n).conc c = .int k (k.wrap n) := by
  cases k <;> simp [wr, Sc.conc, IntKind.wrap, IntKind.bits, IntKind.signed]

theorem wr_closed (k : IntKind) (n : Int) (m : Nat) : (wr k n).closed m = true := by cases k <;> rfl

theorem kEq_iff {k k' : IntKind} : kEq k k' = true ↔ k = k' := by cases k <;> cases k' <;> simp [kEq]

theorem bopI_sound {op : BinOp} {k k' : IntKind} {a b : Int} {s : Sc} (h : bopI op k a k' b = some s) (t : TypeId) (c : Con) (w : World) :
    (binOp op t (.int k a) (.int k' b)).run P w = .ok (s.conc c) w ∧ ∀ n, s.closed n = true := by
  unfold bopI at h
  cases op <;> simp only at h
  case shl =>
    split at h
    · cases h
    · rename_i hb
      simp only [decide_eq_false_iff_not] at hb
      simp only [Option.some.injEq] at h
      subst h
      exact ⟨by simp [binOp, Op.shift, hb, wr_conc], wr_closed _ _⟩
  case shr =>
    split at h
    · cases h
    · rename_i hb
      simp only [decide_eq_false_iff_not] at hb
      simp only [Option.some.injEq] at h
      subst h
      exact ⟨by simp [binOp, Op.shift, hb, Sc.conc], fun _ => rfl⟩
  all_goals
    split at h
    · cases h
    · rename_i hk
      have hk := kEq_iff.1 hk
      subst hk
      first
        | (simp only [Option.some.injEq] at h; subst h; refine ⟨?_, wr_closed _ _⟩; rw [wr_conc]; simp [binOp, Op.intArith]; done)
        | (simp only [Option.some.injEq] at h; subst h; exact ⟨by simp [binOp, Op.intCmp, Sc.conc], fun _ => rfl⟩)
        | (split at h
           · cases h
           · rename_i hb
             simp only [decide_eq_false_iff_not] at hb
             simp only [Option.some.injEq] at h; subst h
             exact ⟨by simp [binOp, Op.intDiv, hb, Sc.conc], fun _ => rfl⟩)
        | (simp only [bits, Option.some.injEq] at h
           subst h
           exact ⟨by simp [binOp, Op.intBits, Sc.conc], fun _ => rfl⟩)
        | (simp [bits] at h)

end

end Go.Ev
