import Derived.Test.YtmappjgknpldpaaHv2
namespace Go.Hv
open Go.Ev
section
variable {P : Program} {A : Base} {c : Con} {m : HM} {w : World}

theorem addr_off {b o j : Nat} : (Addr.mk b o none).add j = ⟨b, o + j, none⟩ := by unfold Addr.add; split <;> simp_all

theorem sliceHas_run (hr : Rel A c m w) {s : TV} {k size n : Nat} {cells : List Sc} (h : SliceHas A m s k cells) (hk : cells.length = k) (hn : n * size = k) (hl : lenS s = some n) :
    (Builtin.firstCells size n (s.conc c)).run P w = .ok (cells.map (Sc.conc c)).toArray w ∧ closedL m.bs.length cells = true := by
  unfold SliceHas at h
  split at h
  · subst h
    exact ⟨by simp [TV.conc, Sc.conc, Builtin.firstCells], rfl⟩
  · rename_i b o _ _
    split at h
    · rename_i x hx
      obtain ⟨e, hlen⟩ := takeAt_spec h
      refine ⟨?_, ?_⟩
      · have := run_loadCells (P := P) (w := w) (p := ⟨c.ι b, o, none⟩) (vs := cells.map (Sc.conc c)) (fun j v hv => by
          rw [List.getElem?_map] at hv
          simp only [Option.map_eq_some_iff] at hv
          obtain ⟨s, hs, rfl⟩ := hv
          have : x.cells[o + j]? = some s := by
            rw [e, List.getElem?_take] at hs
            split at hs
            · simpa using hs
            · cases hs
          rw [addr_off]
          exact hr.cell hx this)
        simp only [TV.conc, Sc.conc, Option.map_some, SP.conc, Builtin.firstCells, hn]
        simpa [hk] using this
      · rw [e]
        exact closedL_iff.2 fun s hs => closedL_iff.1 (hr.cl b x hx) s (List.mem_of_mem_drop (List.mem_of_mem_take hs))
    · exact h.elim
  · rename_i a _ _
    obtain ⟨h1, h2, h3⟩ := h
    refine ⟨?_, closedL_mono (Nat.zero_le _) h2⟩
    have ag0 : Agree 0 Con0 c := fun b hb => absurd hb (Nat.not_lt_zero b)
    have := run_loadCells (P := P) (w := w) (p := a) (vs := cells.map (Sc.conc c)) (fun j v hv => by
      rw [List.getElem?_map] at hv
      simp only [Option.map_eq_some_iff] at hv
      obtain ⟨s, hs, rfl⟩ := hv
      rw [Sc.conc_agree ag0 (closedL_iff.1 h2 s (List.mem_of_getElem? hs))]
      exact bcell_in (baseIn_or hr.baseA hr.baseN) (h3 j s hs))
    simp only [TV.conc, Sc.conc, Option.map_some, SP.conc, Builtin.firstCells, hn]
    simpa [hk] using this
  · exact h.elim

theorem lenS_conc {s : TV} {n : Nat} (h : lenS s = some n) : ∃ p cap, s.conc c = .slice p n cap := by
  unfold lenS at h
  split at h
  · simp only [Option.some.injEq] at h
    subst h
    exact ⟨_, _, rfl⟩
  · cases h

theorem lenS_run {s : TV} {n : Nat} (h : lenS s = some n) : (Builtin.lenOf (s.conc c)).run P w = .ok n w := by
  obtain ⟨p, cap, e⟩ := lenS_conc (c := c) h
  simp [e, Builtin.lenOf]

/-- A block taken over by a new entry, with more of it known. -/
theorem Rel.grow (h : Rel A c m w) {b : Nat} {x : Blk} {vs : List Sc} {cap es : Nat} (hx : nth m.bs b = some x) (hv : closedL m.bs.length vs = true) (hcap : x.cells.length + vs.length ≤ cap * es)
    (hc : if x.grows then x.es = cap * es else x.cells.length = cap * es) :
    ∃ w', (storeCells ⟨c.ι b, x.cells.length, none⟩ (vs.map (Sc.conc c))).run P w = .ok () w' ∧
      Rel A (c.add m.bs.length (c.ι b) 0) ⟨setB m.bs b none ++ [some ⟨x.cells ++ vs, x.elem, cap * es, true⟩], m.N⟩ w' ∧
      Since c m w (c.add m.bs.length (c.ι b) 0) ⟨setB m.bs b none ++ [some ⟨x.cells ++ vs, x.elem, cap * es, true⟩], m.N⟩ w' := by
  obtain ⟨junk, h1, h2, h3⟩ := h.blk b _ hx
  have hb := nth_lt hx
  have hjl : x.cells.length + junk.length = cap * es := by
    cases hg : x.grows with
    | true => rw [hg] at hc; rw [h3 hg]; exact hc
    | false => rw [hg] at hc; rw [h2 hg]; simpa using hc
  have hrun := run_storeCells (P := P) (fz := (0, 0)) (vs.map (Sc.conc c)) 0 x.cells.length w _ h1 (by simp; omega) (by
    intro v hv'
    obtain ⟨s, hs, rfl⟩ := List.mem_map.1 hv'
    exact Sc.conc_one c (closedL_iff.1 hv s hs))
  have hcells : ((x.cells.map (Sc.conc c) ++ junk).toArray.toList.take (x.cells.length + 0) ++ vs.map (Sc.conc c) ++ (x.cells.map (Sc.conc c) ++ junk).toArray.toList.drop (x.cells.length + 0 + (vs.map (Sc.conc c)).length)) =
      (x.cells ++ vs).map (Sc.conc c) ++ junk.drop vs.length := by
    simp only [Nat.add_zero, List.map_append, List.length_map]
    rw [List.take_append_of_le_length (by simp), List.take_of_length_le (by simp), List.drop_append]
    congr 1
    rw [List.drop_eq_nil_of_le (by simp)]
    simp
  rw [hcells] at hrun
  refine ⟨_, hrun, ?_⟩
  have hag := Con.add_agree c m.bs.length (c.ι b) 0
  have hι : ∀ d, d < m.bs.length → (c.add m.bs.length (c.ι b) 0).ι d = c.ι d := fun d hd => (hag d hd).1
  have hlast : (c.add m.bs.length (c.ι b) 0).ι m.bs.length = c.ι b := by simp [Con.add]
  have hnth : ∀ d y, nth (setB m.bs b none ++ [some ⟨x.cells ++ vs, x.elem, cap * es, true⟩]) d = some y → (d < m.bs.length ∧ d ≠ b ∧ nth m.bs d = some y) ∨ (d = m.bs.length ∧ y = ⟨x.cells ++ vs, x.elem, cap * es, true⟩) := fun d y hy => by
    have hlt := nth_lt hy
    simp only [List.length_append, List.length_cons, List.length_nil, length_setB] at hlt
    by_cases hd : d < m.bs.length
    · rw [nth_append_lt (by simpa using hd)] at hy
      exact .inl ⟨hd, nth_setB_none hy⟩
    · have : d = m.bs.length := by omega
      subst this
      have hl : nth (setB m.bs b none ++ [some ⟨x.cells ++ vs, x.elem, cap * es, true⟩]) (setB m.bs b none).length = some ⟨x.cells ++ vs, x.elem, cap * es, true⟩ := nth_append_last
      rw [length_setB] at hl
      rw [hl] at hy
      exact .inr ⟨rfl, by simpa using hy.symm⟩
  have keepB : ∀ B : Base, BaseIn B w → (∀ o, ¬ B (c.ι b) o) → BaseIn B { w with heap := w.heap.setIfInBounds (c.ι b) (.cells ((x.cells ++ vs).map (Sc.conc c) ++ junk.drop vs.length).toArray x.elem (0, 0)) } := fun B hB hs r o' hr => by
    simp only [Array.getElem?_setIfInBounds]
    rw [if_neg (fun e' => by subst e'; exact hs _ hr)]
    exact hB r o' hr
  constructor
  · refine ⟨fun d y hy => ?_, fun d y hy => ?_, fun d d' y z hy hz e => ?_, fun d hd => ?_, keepB _ h.baseA (fun o' => h.sepA b _ o' hx), keepB _ h.baseN (fun o' => h.sepN b _ o' hx), fun d y o hy => ?_, fun d y o hy => ?_⟩
    · rcases hnth d y hy with ⟨hd, hne, hy⟩ | ⟨rfl, rfl⟩
      · obtain ⟨junk', k1, k2, k3⟩ := h.blk d y hy
        refine ⟨junk', ?_, k2, k3⟩
        rw [hι d hd, concL_agree hag (h.cl d y hy)]
        simp only [Array.getElem?_setIfInBounds]
        rw [if_neg (fun e' => hne (h.inj d b y _ hy hx e'.symm))]
        exact k1
      · refine ⟨junk.drop vs.length, ?_, (fun hg => by cases hg), fun _ => ?_⟩
        · rw [hlast, concL_agree hag (by
            refine closedL_iff.2 fun s hs => ?_
            rcases List.mem_append.1 hs with hs | hs
            · exact closedL_iff.1 (h.cl b x hx) s hs
            · exact closedL_iff.1 hv s hs)]
          simp only [Array.getElem?_setIfInBounds, if_true]
          rw [if_pos (h.lt b hb)]
        · simp only [List.length_append, List.length_drop]; omega
    · have hlen : (setB m.bs b none ++ [some (⟨x.cells ++ vs, x.elem, cap * es, true⟩ : Blk)]).length = m.bs.length + 1 := by simp
      rw [hlen]
      rcases hnth d y hy with ⟨hd, hne, hy⟩ | ⟨rfl, rfl⟩
      · exact closedL_mono (by omega) (h.cl d y hy)
      · refine closedL_iff.2 fun s hs => ?_
        rcases List.mem_append.1 hs with hs | hs
        · exact Sc.closed_mono (by omega) (closedL_iff.1 (h.cl b x hx) s hs)
        · exact Sc.closed_mono (by omega) (closedL_iff.1 hv s hs)
    · rcases hnth d y hy with ⟨hd, hne, hy⟩ | ⟨rfl, rfl⟩ <;> rcases hnth d' z hz with ⟨hd', hne', hz⟩ | ⟨rfl, rfl⟩
      · rw [hι d hd, hι d' hd'] at e; exact h.inj d d' y z hy hz e
      · rw [hι d hd, hlast] at e; exact absurd (h.inj d b y x hy hx e) hne
      · rw [hι d' hd', hlast] at e; exact absurd (h.inj d' b z x hz hx e.symm) hne'
      · rfl
    · simp only [List.length_append, List.length_cons, List.length_nil, length_setB] at hd
      simp only [Array.size_setIfInBounds]
      by_cases hlt : d < m.bs.length
      · rw [hι d hlt]; exact h.lt d hlt
      · have : d = m.bs.length := by omega
        subst this; rw [hlast]; exact h.lt b hb
    · rcases hnth d y hy with ⟨hd, hne, hy⟩ | ⟨rfl, rfl⟩
      · rw [hι d hd]; exact h.sepA d y o hy
      · rw [hlast]; exact h.sepA b x o hx
    · rcases hnth d y hy with ⟨hd, hne, hy⟩ | ⟨rfl, rfl⟩
      · rw [hι d hd]; exact h.sepN d y o hy
      · rw [hlast]; exact h.sepN b x o hx
  · refine ⟨by simp, fun d hd => hag d hd, ⟨by simp, rfl, rfl, rfl⟩, fun r hr hno => ?_, fun d y hy h1 => ?_, fun d y hy hd => ?_, fun _ _ hn => .inl hn⟩
    · simp only [Array.getElem?_setIfInBounds]
      rw [if_neg (hno b _ hx)]
    · rcases hnth d y hy with ⟨hd, _⟩ | ⟨rfl, _⟩
      · omega
      · right; exact ⟨b, x, hx, by rw [hlast]⟩
    · rcases hnth d y hy with ⟨_, _, hy⟩ | ⟨rfl, _⟩
      · exact ⟨y, hy⟩
      · omega

theorem next_le {need cap eb : Nat} (h : (2 * need + 256) * eb ≤ 281474976710656) (hc : cap < need) : ¬ (Builtin.nextslicecap need cap * eb > 2 ^ 48) := by
  have g : ∀ r c, c ≤ need → Builtin.growBy need r c ≤ 2 * need + 256 := by
    intro r
    induction r with
    | zero => intro c hc; simp only [Builtin.growBy]; omega
    | succ r ih =>
      intro c hc
      simp only [Builtin.growBy]
      split
      · omega
      · by_cases h2 : c + (c + 768) / 4 ≤ need
        · exact ih _ h2
        · have : ∀ r, Builtin.growBy need r (c + (c + 768) / 4) = c + (c + 768) / 4 := by
            intro r
            cases r with
            | zero => rfl
            | succ r => simp only [Builtin.growBy]; rw [if_pos (by omega)]
          rw [this]; omega
  have : Builtin.nextslicecap need cap ≤ 2 * need + 256 := by
    unfold Builtin.nextslicecap
    split
    · omega
    · split
      · omega
      · exact g 4 cap (by omega)
  have := Nat.mul_le_mul_right eb this
  omega

theorem run_choose_cap {need old : Nat} {el : TypeId} (hn : need < 2 ^ 63) (w : World) : ∃ cap, need ≤ cap ∧ (choose (.appendCap need old el)).run P w = .ok cap { w with drawn := w.drawn + 1 } := by
  refine ⟨need + w.tape w.drawn (.appendCap need old el) % (2 ^ 63 - need), Nat.le_add_right _ _, ?_⟩
  simp [choose, Sem.run, Question.forced, Question.cut]

theorem run_askRoom (n : Nat) (w : World) : (askRoom n).run P w = .ok () w := by
  unfold askRoom mark
  split <;> simp [Sem.run]

end
end Go.Hv
