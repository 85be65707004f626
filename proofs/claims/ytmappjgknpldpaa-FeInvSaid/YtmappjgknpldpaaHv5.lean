import Derived.Test.YtmappjgknpldpaaHv4
namespace Go.Hv
open Go.Ev
section
variable {G : Cfg} {c : Con} {m : HM} {e : Env} {a : Act} {w : World}

theorem zeroCells_size (z : Array Value) (n : Nat) : (Builtin.zeroCells z n).size = n * z.size := by simp [Builtin.zeroCells]

theorem argTypes_at {ts : Array TypeId} {t : TypeId} {l : List TypeId} (h : ts.toList = t :: l) : ts[0]? = some t := by rw [← Array.getElem?_toList, h]; rfl
theorem argTypes_at1 {ts : Array TypeId} {t t2 : TypeId} {l : List TypeId} (h : ts.toList = t :: t2 :: l) : ts[1]? = some t2 := by rw [← Array.getElem?_toList, h]; rfl

theorem Since.sub {c' : Con} {m' : HM} {w' : World} (h : Since c m w c' m' w') {bs : Mem} (hs : ∀ b x, nth bs b = some x → nth m'.bs b = some x) (hl : bs.length = m'.bs.length) : Since c m w c' ⟨bs, m'.N⟩ w' :=
  ⟨by simp only [hl]; exact h.le, h.agree, h.same, h.keep, fun b x hx => h.fresh b x (hs b x hx), fun b x hx => h.live b x (hs b x hx), h.newN⟩

/-- What append does where there is no room. -/
theorem run_append_new {P : Program} {ts : Array TypeId} {ty : TypeId} {sv yv : Value} {base : Option Addr} {n k cap0 : Nat} {t t2 el es eb : Nat} {d2 : TypeId} {old new z : Array Value} {ts' : List TypeId} {w0 : World}
    (hts : ts.toList = t :: t2 :: ts') (hu : P.underlying t = some (.slice el)) (hu2 : P.underlying t2 = some (.slice d2)) (hie : (P.info? el).isSome = true) (hse : P.cellsOf el = es) (hbe : P.bytesOf el = eb)
    (hs : sv = .slice base n cap0) (hl : (Builtin.lenOf yv).run P w = .ok k w) (hroom : cap0 < n + k) (hb : CapOk (n + k) eb)
    (hold : ∀ w : World, w.heap = w0.heap → (Builtin.firstCells es n sv).run P w = .ok old w) (hnew : ∀ w : World, w.heap = w0.heap → (Builtin.firstCells es k yv).run P w = .ok new w)
    (hw0 : w.heap = w0.heap) {zv : Value} (hz : ∀ w, (zeroValue el).run P w = .ok zv w) :
    ∃ cap, n + k ≤ cap ∧ (Builtin.append_ ts ty #[sv, yv]).run P w = .ok (.slice (some ⟨w.heap.size, 0, none⟩) (n + k) cap)
      { w with heap := w.heap.push (.cells (old ++ new ++ Builtin.zeroCells zv.cells (cap - (n + k))) el), drawn := w.drawn + 1 } := by
  have hk63 : n + k < 2 ^ 63 := by
    have := Nat.mul_le_mul_left (2 * (n + k) + 256) hb.2
    have := hb.1
    omega
  obtain ⟨cap, hcap, hch⟩ := run_choose_cap (P := P) (need := n + k) (old := cap0) (el := el) hk63 w
  refine ⟨cap, hcap, ?_⟩
  obtain ⟨inf, hinf⟩ := Option.isSome_iff_exists.1 hie
  have hbytes : inf.bytes = eb := by rw [← hbe]; simp [Program.bytesOf, hinf]
  have hnext := next_le hb.1 hroom
  have hts0 := argTypes_at hts
  have hts1 := argTypes_at1 hts
  have hi63 : ¬ (((n + k : Nat) : Int) > IntKind.i64.max ∧ (False ∨ inf.bytes = 0)) := by
    have : IntKind.i64.max = 9223372036854775807 := by decide
    rw [this]
    omega
  have hnc : ¬ n + k ≤ cap0 := by omega
  have h1 := hold { w with drawn := w.drawn + 1 } hw0
  have h2 := hnew { w with drawn := w.drawn + 1 } hw0
  subst hs
  rw [← hbytes] at hnext
  unfold Builtin.append_
  simp only [hts0, hts1]
  simp only [Sem.run_bind, Sem.run_pure, r_underlying hu, r_underlying hu2, r_sizeOf hie, hse, Result.andThen_ok, hl, if_neg hnc, r_typeInfo hinf, hz,
    Bool.false_eq_true, if_false, Bool.not_false, if_true, List.getElem?_toArray, List.getElem?_cons_zero, List.getElem?_cons_succ]
  rw [if_neg hi63]
  simp only [Sem.run_bind, Sem.run_pure, Result.andThen_ok, r_typeInfo hinf]
  rw [if_neg hnext]
  simp only [Sem.run_bind, Sem.run_pure, Result.andThen_ok, r_typeInfo hinf, hch, run_askRoom, h1, h2, newRow, run_newObj, hz]

/-- What append does where there is room. -/
theorem run_append_in {P : Program} {ts : Array TypeId} {ty : TypeId} {sv yv : Value} {p : Addr} {n k cap0 : Nat} {t t2 el es : Nat} {d2 : TypeId} {new : Array Value} {ts' : List TypeId} {w' : World}
    (hts : ts.toList = t :: t2 :: ts') (hu : P.underlying t = some (.slice el)) (hu2 : P.underlying t2 = some (.slice d2)) (hie : (P.info? el).isSome = true) (hse : P.cellsOf el = es)
    (hs : sv = .slice (some p) n cap0) (hl : (Builtin.lenOf yv).run P w = .ok k w) (hroom : n + k ≤ cap0)
    (hnew : (Builtin.firstCells es k yv).run P w = .ok new w) (hst : (storeCells (p.add (n * es)) new.toList).run P w = .ok () w') :
    (Builtin.append_ ts ty #[sv, yv]).run P w = .ok (.slice (some p) (n + k) cap0) w' := by
  have hts0 := argTypes_at hts
  have hts1 := argTypes_at1 hts
  subst hs
  unfold Builtin.append_
  simp only [hts0, hts1]
  simp only [Sem.run_bind, Sem.run_pure, r_underlying hu, r_underlying hu2, r_sizeOf hie, hse, Result.andThen_ok, hl, if_pos hroom,
    Bool.false_eq_true, if_false, Bool.not_false, if_true, List.getElem?_toArray, List.getElem?_cons_zero, List.getElem?_cons_succ]
  simp only [hnew, Result.andThen_ok, Sem.run_bind, Sem.run_pure, hst]

theorem aappend_sound (hG : CfgOk G) (hr : Rel G.A c m w) (hf : Fits c m.bs.length e a) {o : Oper} {xs : Array Operand} {ts : Array TypeId} (ho : o.op = .call { callee := .builtin .append, args := xs, argTypes := ts })
    {vs : List TV} (hvs : getOps e xs.toList = some vs) {K : TV → HM → Prop} (h : aappend G ts.toList vs m K) : OpGoes G o c m a w K := by
  obtain ⟨hargs, hcl⟩ := getOps_sound hf hvs
  unfold aappend at h
  split at h
  · rename_i t t2 ts' x y hts
    split at h
    · rename_i el es eb ag _ _ _ _ _ _ _ _ k ht ht2 hlen
      split at h
      · rename_i i hi
        obtain ⟨us, hus, hul, hzl, h⟩ := h
        obtain ⟨hu, hie, hue, hse, hbe, _⟩ := (hG.tys _ _ ht).k
        obtain ⟨hu2, _⟩ := (hG.tys _ _ ht2).k
        obtain ⟨inf, hinf⟩ := Option.isSome_iff_exists.1 hie
        have hrow := hG.tys _ _ hi
        have hA : xs.map a.eval = #[x.conc c, y.conc c] := by
          apply Array.ext'
          simpa using hargs
        have hly := lenS_run (P := G.P) (c := c) (w := w) hlen
        have hrun : (execOp a.eval o).run G.P w = (do pure (.value (← Builtin.append_ ts o.type #[x.conc c, y.conc c])) : Sem Next).run G.P w := by
          simp only [execOp, ho, resolve, hA, pure_bind, invoke, builtin]
        obtain ⟨z, hz1, hz2⟩ : ∃ z, (∀ w, (zeroValue el).run G.P w = .ok z w) ∧ z.cells.size = es := by
          obtain ⟨z, h1, h2⟩ := hrow.zero c w
          refine ⟨z, fun w' => ?_, by rw [h2]; simp [hzl]⟩
          obtain ⟨z', h3, h4⟩ := hrow.zero c w'
          have : (zeroValue el).run G.P w = .ok z w := h1
          unfold zeroValue at this h3 ⊢
          simp only [Sem.run_bind, r_typeInfo hinf, Result.andThen_ok] at this h3 ⊢
          cases hzz : inf.zero with
          | none => rw [hzz] at this; simp [unsupported, Sem.run] at this
          | some v => rw [hzz] at this; simp only [Sem.run_pure, Result.ok.injEq, and_true] at this ⊢; exact this
        have hfc : ∀ w' : World, w'.heap = w.heap → (Builtin.firstCells es k (y.conc c)).run G.P w' = .ok (us.map (Sc.conc c)).toArray w' := fun w' hw' => by
          have hr' : Rel G.A c m w' := by
            obtain ⟨h1, h2, h3, h4, h5, h6, h7, h8⟩ := hr
            exact ⟨by rw [hw']; exact h1, h2, h3, by rw [hw']; exact h4, by unfold BaseIn; rw [hw']; exact h5, by unfold BaseIn; rw [hw']; exact h6, h7, h8⟩
          exact (sliceHas_run (P := G.P) hr' hus hul rfl hlen).1
        have husc := (sliceHas_run (P := G.P) hr hus hul rfl hlen).2
        split at h
        · obtain ⟨hb, hk0, hK⟩ := h
          obtain ⟨cap, hcap, happ⟩ := run_append_new (ty := o.type) (base := none) (n := 0) (k := k) (cap0 := 0) (old := #[]) (w0 := w) (z := #[]) hts hu hu2 hie hse hbe rfl hly (by omega) (by simpa using hb)
            (fun w' _ => by simp [Builtin.firstCells]) hfc rfl hz1
          simp only [Nat.zero_add] at happ hcap
          have hK := hK cap hcap
          rw [snoc_eq] at hK
          obtain ⟨hr1, hs1⟩ := hr.push' (x := ⟨us, el, cap * es, true⟩) (junk := (Builtin.zeroCells z.cells (cap - k)).toList) husc (fun h => by cases h) (fun _ => by
            simp only [Array.length_toList, zeroCells_size, hz2, hul]
            rw [← Nat.add_mul]; congr 1; omega) 1
          refine .of_value ?_ hr1 hs1 (by simp [TV.closed, Sc.closed, SP.closed]) hK
          rw [hrun]
          apply run_value'
          have this : (Con.add c m.bs.length w.heap.size 0).ι m.bs.length = w.heap.size := by simp [Con.add]
          simp only [TV.conc, Sc.conc, Option.map_none, Option.map_some, SP.conc, this] at happ ⊢
          rw [happ]
          simp
          congr 2
          apply Array.ext'
          simp
        · rename_i b n cap0
          split at h
          · rename_i xb hxb
            obtain ⟨hxl, hncap, hxe, hgr, hb, hK⟩ := h
            have hsv : (TV.one (.slice (some (.loc b 0)) n cap0)).conc c = .slice (some ⟨c.ι b, 0, none⟩) n cap0 := rfl
            have hcx := hr.cl b xb hxb
            by_cases hroom : n + k ≤ cap0
            · obtain ⟨w', hst, hr1, hs1⟩ := hr.grow (P := G.P) (vs := us) (cap := cap0) (es := es) hxb husc (by rw [hxl, hul, ← Nat.add_mul]; exact Nat.mul_le_mul_right es hroom) (by
                split
                · rename_i hg; rw [if_pos hg] at hgr; exact hgr
                · rename_i hg; rw [if_neg hg] at hgr; rw [hgr]; exact hxl)
              have hK := hK cap0 hroom
              rw [snoc_eq, length_setB, ← hxe] at hK
              refine .of_value ?_ hr1 hs1 (by simp [TV.closed, Sc.closed, SP.closed]) hK
              rw [hrun]
              apply run_value'
              have this : (Con.add c m.bs.length (c.ι b) 0).ι m.bs.length = c.ι b := by simp [Con.add]
              have happ := run_append_in (ty := o.type) (w' := w') hts hu hu2 hie hse hsv hly hroom (hfc w rfl) (by rw [addr_off, Nat.zero_add, ← hxl]; exact hst)
              rw [happ]
              simp [TV.conc, Sc.conc, SP.conc, this]
            · have hold : ∀ w' : World, w'.heap = w.heap → (Builtin.firstCells es n ((TV.one (.slice (some (.loc b 0)) n cap0)).conc c)).run G.P w' = .ok (xb.cells.map (Sc.conc c)).toArray w' := fun w' hw' => by
                have hr' : Rel G.A c m w' := by
                  obtain ⟨h1, h2, h3, h4, h5, h6, h7, h8⟩ := hr
                  exact ⟨by rw [hw']; exact h1, h2, h3, by rw [hw']; exact h4, by unfold BaseIn; rw [hw']; exact h5, by unfold BaseIn; rw [hw']; exact h6, h7, h8⟩
                refine (sliceHas_run (P := G.P) (A := G.A) (s := .one (.slice (some (.loc b 0)) n cap0)) (k := n * es) (cells := xb.cells) hr' ?_ hxl rfl rfl).1
                simp only [SliceHas, hxb]
                rw [← hxl]
                have : ∀ l : List Sc, takeAt l 0 l.length = some l := by
                  intro l
                  induction l with
                  | nil => rfl
                  | cons s l ih => simp [takeAt, ih]
                exact this _
              obtain ⟨cap, hcap, happ⟩ := run_append_new (ty := o.type) (k := k) (w0 := w) (z := #[]) hts hu hu2 hie hse hbe hsv hly (by omega) hb hold hfc rfl hz1
              have hK := hK cap hcap
              rw [snoc_eq, length_setB] at hK
              obtain ⟨hr1, hs1⟩ := hr.push' (x := ⟨xb.cells ++ us, el, cap * es, true⟩) (junk := (Builtin.zeroCells z.cells (cap - (n + k))).toList) (by
                refine closedL_iff.2 fun s hs => ?_
                rcases List.mem_append.1 hs with hs | hs
                · exact closedL_iff.1 hcx s hs
                · exact closedL_iff.1 husc s hs) (fun h => by cases h) (fun _ => by
                simp only [Array.length_toList, zeroCells_size, hz2, hul, hxl, List.length_append]
                rw [← Nat.add_mul, ← Nat.add_mul]; congr 1; omega) 1
              have hsub : ∀ d y, nth (setB m.bs b none ++ [some (⟨xb.cells ++ us, el, cap * es, true⟩ : Blk)]) d = some y → nth (m.bs ++ [some ⟨xb.cells ++ us, el, cap * es, true⟩]) d = some y := fun d y hy => by
                have hlt := nth_lt hy
                simp only [List.length_append, List.length_cons, List.length_nil, length_setB] at hlt
                by_cases hd : d < m.bs.length
                · rw [nth_append_lt (by simpa using hd)] at hy
                  rw [nth_append_lt hd]
                  exact (nth_setB_none hy).2
                · have : d = m.bs.length := by omega
                  subst this
                  have hl : nth (setB m.bs b none ++ [some (⟨xb.cells ++ us, el, cap * es, true⟩ : Blk)]) (setB m.bs b none).length = some ⟨xb.cells ++ us, el, cap * es, true⟩ := nth_append_last
                  rw [length_setB] at hl
                  rw [nth_append_last, ← hl]; exact hy
              have hlen' : (setB m.bs b none ++ [some (⟨xb.cells ++ us, el, cap * es, true⟩ : Blk)]).length = (m.bs ++ [some (⟨xb.cells ++ us, el, cap * es, true⟩ : Blk)]).length := by simp
              have hr2 := hr1.sub hsub hlen'
              have hs2 := hs1.sub hsub hlen'
              refine .of_value ?_ hr2 hs2 (by simp [TV.closed, Sc.closed, SP.closed]) hK
              rw [hrun]
              apply run_value'
              have this : (Con.add c m.bs.length w.heap.size 0).ι m.bs.length = w.heap.size := by simp [Con.add]
              rw [happ]
              simp [TV.conc, Sc.conc, SP.conc, this]
              congr 2
              apply Array.ext'
              simp
          · exact h.elim
        · exact h.elim
      · exact h.elim
    · exact h.elim
  · exact h.elim

theorem acopy_sound (hG : CfgOk G) (hr : Rel G.A c m w) (hf : Fits c m.bs.length e a) {o : Oper} {xs : Array Operand} {ts : Array TypeId} (ho : o.op = .call { callee := .builtin .copy, args := xs, argTypes := ts })
    {vs : List TV} (hvs : getOps e xs.toList = some vs) {K : TV → HM → Prop} (h : acopy G ts.toList vs m K) : OpGoes G o c m a w K := by
  obtain ⟨hargs, hcl⟩ := getOps_sound hf hvs
  unfold acopy at h
  split at h
  · rename_i t ts' b o' dl dc y hts
    split at h
    · rename_i el es eb ag l el' es' gr sl ht hx hlen
      obtain ⟨us, hus, h⟩ := h
      split at h
      · rename_i cs hput
        obtain ⟨hu, hie, hue, hse, _, _⟩ := (hG.tys _ _ ht).k
        have hts0 := argTypes_at hts
        have hA : xs.map a.eval = #[.slice (some ⟨c.ι b, o', none⟩) dl dc, y.conc c] := by
          apply Array.ext'
          simpa [TV.conc, Sc.conc, SP.conc] using hargs
        have hly := lenS_run (P := G.P) (c := c) (w := w) hlen
        have hfc : (Builtin.firstCells es (Nat.min sl dl) (y.conc c)).run G.P w = .ok (us.map (Sc.conc c)).toArray w ∧ closedL m.bs.length us = true := by
          unfold SliceHas at hus
          split at hus
          · subst hus
            exact ⟨by simp [TV.conc, Sc.conc, Builtin.firstCells], rfl⟩
          · rename_i b2 o2 _ _
            split at hus
            · rename_i x hx2
              obtain ⟨e1, hlen1⟩ := takeAt_spec hus
              have hul : us.length = Nat.min sl dl * es := by rw [e1]; simp; omega
              exact ⟨by
                have := run_loadCells (P := G.P) (w := w) (p := ⟨c.ι b2, o2, none⟩) (vs := us.map (Sc.conc c)) (fun j v hv => by
                  rw [List.getElem?_map] at hv
                  simp only [Option.map_eq_some_iff] at hv
                  obtain ⟨s, hs, rfl⟩ := hv
                  have : x.cells[o2 + j]? = some s := by
                    rw [e1, List.getElem?_take] at hs
                    split at hs
                    · simpa using hs
                    · cases hs
                  rw [addr_off]
                  exact hr.cell hx2 this)
                simp only [TV.conc, Sc.conc, Option.map_some, SP.conc, Builtin.firstCells]
                rw [← hul]
                simpa using this, by
                rw [e1]
                exact closedL_iff.2 fun s hs => closedL_iff.1 (hr.cl b2 x hx2) s (List.mem_of_mem_drop (List.mem_of_mem_take hs))⟩
            · exact hus.elim
          · rename_i a2 _ _
            obtain ⟨h1, h2, h3⟩ := hus
            have ag0 : Agree 0 Con0 c := fun b hb => absurd hb (Nat.not_lt_zero b)
            refine ⟨?_, closedL_mono (Nat.zero_le _) h2⟩
            have := run_loadCells (P := G.P) (w := w) (p := a2) (vs := us.map (Sc.conc c)) (fun j v hv => by
              rw [List.getElem?_map] at hv
              simp only [Option.map_eq_some_iff] at hv
              obtain ⟨s, hs, rfl⟩ := hv
              rw [Sc.conc_agree ag0 (closedL_iff.1 h2 s (List.mem_of_getElem? hs))]
              exact bcell_in (baseIn_or hr.baseA hr.baseN) (h3 j s hs))
            simp only [TV.conc, Sc.conc, Option.map_some, SP.conc, Builtin.firstCells]
            rw [← h1]
            simpa using this
          · exact hus.elim
        obtain ⟨w', hw, h1, h2⟩ := hr.store (P := G.P) hx hput hfc.2
        refine .of_value ?_ h1 h2 rfl h
        simp only [execOp, ho, resolve, hA, pure_bind, invoke, builtin]
        apply run_value'
        have hcopy : (Builtin.copy_ ts o.type #[.slice (some ⟨c.ι b, o', none⟩) dl dc, y.conc c]).run G.P w = .ok (goInt (Nat.min sl dl : Nat)) w' := by
          simp [Builtin.copy_, hts0, r_underlying hu, hly, r_sizeOf hie, hse, hfc.1, hw]
        rw [hcopy]
        simp [goInt, TV.conc, Sc.conc]
      · exact h.elim
    · exact h.elim
  · exact h.elim

end
end Go.Hv
