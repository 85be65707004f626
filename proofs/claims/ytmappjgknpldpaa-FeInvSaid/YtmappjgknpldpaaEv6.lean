import Derived.Test.YtmappjgknpldpaaEv5
namespace Go.Ev
section
variable {P : Program} {W0 : World} {c : Con} {m : Mem} {w : World}

theorem Since.refl (c : Con) (m : Mem) (w : World) : Since c m w c m w :=
  ⟨Nat.le_refl _, fun _ _ => ⟨rfl, rfl⟩, Nat.le_refl _, fun _ _ _ => rfl, fun b x h1 h2 => absurd (nth_lt h1) (by omega), fun b x h1 _ => ⟨x, h1⟩⟩

theorem Since.trans {c0 c1 c2 : Con} {m0 m1 m2 : Mem} {w0 w1 w2 : World} (h : Since c0 m0 w0 c1 m1 w1) (k : Since c1 m1 w1 c2 m2 w2) : Since c0 m0 w0 c2 m2 w2 := by
  have back : ∀ b x, nth m1 b = some x → w0.heap.size ≤ c1.ι b ∨ ∃ d y, nth m0 d = some y ∧ c1.ι b = c0.ι d := fun b x hx => by
    by_cases hlt : b < m0.length
    · obtain ⟨y, hy⟩ := h.live b x hx hlt
      exact .inr ⟨b, y, hy, (h.agree b hlt).1⟩
    · exact h.fresh b x hx (by omega)
  refine ⟨Nat.le_trans h.le k.le, fun b hb => ?_, Nat.le_trans h.size k.size, fun r hr hno => ?_, fun b x hx h1 => ?_, fun b x hx hb => ?_⟩
  · have h1 := h.agree b hb
    have h2 := k.agree b (by have := h.le; omega)
    exact ⟨h2.1.trans h1.1, h2.2.trans h1.2⟩
  · rw [k.keep r (by have := h.size; omega) (fun b x hx => ?_), h.keep r hr hno]
    intro e
    rcases back b x hx with h' | ⟨d, y, hy, h'⟩
    · omega
    · exact hno d y hy (by rw [← h']; exact e)
  · by_cases hlt : b < m1.length
    · obtain ⟨y, hy⟩ := k.live b x hx hlt
      rw [(k.agree b hlt).1]
      exact h.fresh b y hy h1
    · rcases k.fresh b x hx (by omega) with h' | ⟨d, y, hy, h'⟩
      · left; have := h.size; omega
      · rw [h']; exact back d y hy
  · have hlt : b < m1.length := Nat.lt_of_lt_of_le hb h.le
    obtain ⟨y, hy⟩ := k.live b x hx hlt
    exact h.live b y hy hb

/-- A draw. -/
theorem RelM.drew (h : RelM W0 c m w) : RelM W0 c m { w with drawn := w.drawn + 1 } :=
  ⟨h.blk, h.cl, h.inj, h.ge, h.lt, h.ext, h.size, h.os, h.tape, h.output⟩

theorem Since.drew (c : Con) (m : Mem) (w : World) : Since c m w c m { w with drawn := w.drawn + 1 } :=
  ⟨Nat.le_refl _, fun _ _ => ⟨rfl, rfl⟩, Nat.le_refl _, fun _ _ _ => rfl, fun b x h1 h2 => absurd (nth_lt h1) (by omega), fun b x h1 _ => ⟨x, h1⟩⟩

theorem cell_of_block {cells : Array Value} {el : TypeId} {fz : Nat × Nat} {b o : Nat} (h : w.heap[b]? = some (.cells cells el fz)) : w.cell? ⟨b, o, none⟩ = cells[o]? := by
  simp [World.cell?, h]

theorem RelM.cell (h : RelM W0 c m w) {b o : Nat} {x : Blk} (hx : nth m b = some x) {s : Sc} (hs : x.cells[o]? = some s) : w.cell? ⟨c.ι b, o, none⟩ = some (s.conc c) := by
  obtain ⟨junk, hj, _⟩ := h.blk b x hx
  rw [cell_of_block hj]
  obtain ⟨hlt, rfl⟩ := List.getElem?_eq_some_iff.1 hs
  simp [List.getElem?_append_left, hlt]

theorem RelM.free (h : RelM W0 c m w) {b o : Nat} {x : Blk} (hx : nth m b = some x) : w.frozen? ⟨c.ι b, o, none⟩ = false := by
  obtain ⟨junk, hj, _⟩ := h.blk b x hx
  simp [World.frozen?, hj]

/-- What was there before is there still. -/
theorem RelM.extCell (h : RelM W0 c m w) {a : Addr} {v : Value} (hv : W0.cell? a = some v) : w.cell? a = some v := by
  have hlt : a.block < W0.heap.size := by
    unfold World.cell? at hv
    split at hv
    · rename_i heq
      exact (Array.getElem?_eq_some_iff.1 heq).1
    · cases hv
  have := h.ext a.block hlt
  simpa [World.cell?, this] using hv

theorem run_loadCellsFrom {p : Addr} : ∀ (vs : List Value) (i : Nat) (acc : Array Value), (∀ j v, vs[j]? = some v → w.cell? (p.add (i + j)) = some v) →
    (loadCellsFrom p i vs.length acc).run P w = .ok (acc ++ vs.toArray) w
  | [], i, acc, _ => by simp [loadCellsFrom]
  | v :: vs, i, acc, h => by
    have h0 := h 0 v (by simp)
    simp only [Nat.add_zero] at h0
    simp only [List.length_cons, loadCellsFrom, Sem.run_bind, run_load, h0, Result.andThen_ok]
    rw [run_loadCellsFrom vs (i + 1) (acc.push v) (fun j u hu => by
      have := h (j + 1) u (by simpa using hu)
      rwa [show i + (j + 1) = i + 1 + j by omega] at this)]
    simp

theorem run_loadCells {p : Addr} {vs : List Value} (h : ∀ j v, vs[j]? = some v → w.cell? (p.add j) = some v) : (loadCells p vs.length).run P w = .ok vs.toArray w := by
  have := run_loadCellsFrom (P := P) vs 0 #[] (fun j v hv => by rw [Nat.zero_add]; exact h j v hv)
  simpa [loadCells] using this

/-- A value read out of a block. -/
theorem run_loadVar {t : TypeId} {i : TyI} (ht : RowOk P t i) (h : RelM W0 c m w) {b o : Nat} {x : Blk} (hx : nth m b = some x) {v : TV} (hv : partV i.agg i.size x.cells o = some v) :
    (loadVar t ⟨c.ι b, o, none⟩).run P w = .ok (v.conc c) w := by
  unfold partV at hv
  simp only [loadVar, Sem.run_bind, ht.isAgg, Result.andThen_ok]
  cases hag : i.agg with
  | true =>
    rw [hag] at hv
    simp only at hv
    split at hv
    · rename_i r hr
      simp only [Option.some.injEq] at hv
      subst hv
      obtain ⟨e, hlen⟩ := takeAt_spec hr
      have hrl : r.length = i.size := by rw [e]; simp; omega
      have := run_loadCells (P := P) (w := w) (p := ⟨c.ι b, o, none⟩) (vs := r.map (Sc.conc c)) (fun j u hu => by
        rw [List.getElem?_map] at hu
        simp only [Option.map_eq_some_iff] at hu
        obtain ⟨s, hs, rfl⟩ := hu
        have : x.cells[o + j]? = some s := by
          rw [e] at hs
          rw [List.getElem?_take] at hs
          split at hs
          · simpa using hs
          · cases hs
        have ha : (Addr.mk (c.ι b) o none).add j = ⟨c.ι b, o + j, none⟩ := by unfold Addr.add; split <;> simp_all
        rw [ha]
        exact h.cell hx this)
      simp only [if_true, Sem.run_bind, ht.size, Result.andThen_ok]
      rw [show i.size = (r.map (Sc.conc c)).length by simp [hrl], this]
      simp [TV.conc]
    · cases hv
  | false =>
    rw [hag] at hv
    simp only at hv
    split at hv
    · rename_i s hr
      simp only [Option.some.injEq] at hv
      subst hv
      have := cell_part hr
      have hc := h.cell hx this
      simp [hc, TV.conc]
    · cases hv

theorem run_loadVar_ext {t : TypeId} {i : TyI} (ht : RowOk P t i) (h : RelM W0 c m w) {p : Addr} {v : TV} (hv : ExtRead W0 i.agg i.size p v) :
    (loadVar t p).run P w = .ok (v.conc c) w ∧ v.closed 0 = true := by
  unfold ExtRead at hv
  simp only [loadVar, Sem.run_bind, ht.isAgg, Result.andThen_ok]
  have ag0 : Agree 0 Con0 c := fun b hb => absurd hb (Nat.not_lt_zero b)
  cases hag : i.agg with
  | true =>
    rw [hag] at hv
    obtain ⟨l, hl, hc, hcl, rfl⟩ := hv
    have := run_loadCells (P := P) (w := w) (p := p) (vs := l.map (Sc.conc c)) (fun j u hu => by
      rw [List.getElem?_map] at hu
      simp only [Option.map_eq_some_iff] at hu
      obtain ⟨s, hs, rfl⟩ := hu
      rw [Sc.conc_agree ag0 (closedL_iff.1 hcl s (List.mem_of_getElem? hs))]
      exact h.extCell (hc j s hs))
    simp only [if_true, Sem.run_bind, ht.size, Result.andThen_ok]
    rw [show i.size = (l.map (Sc.conc c)).length by simp [hl], this]
    exact ⟨by simp [TV.conc], hcl⟩
  | false =>
    rw [hag] at hv
    obtain ⟨s, hs, hcl, rfl⟩ := hv
    have := h.extCell hs
    rw [← Sc.conc_agree ag0 hcl] at this
    exact ⟨by simp [this, TV.conc], hcl⟩

/-- A new block. -/
def Con.add (c : Con) (n r k : Nat) : Con := ⟨fun b => if b = n then r else c.ι b, fun b => if b = n then k else c.κ b⟩

theorem Con.add_agree (c : Con) (n r k : Nat) : Agree n c (c.add n r k) := fun b hb => by
  have : b ≠ n := by omega
  simp [Con.add, this]

theorem RelM.push (h : RelM W0 c m w) {cells : List Sc} {t : TypeId} (hcl : closedL m.length cells = true) :
    RelM W0 (c.add m.length w.heap.size 0) (m ++ [some ⟨cells, t, 0, false⟩]) { w with heap := w.heap.push (.cells (cells.map (Sc.conc c)).toArray t) } ∧
    Since c m w (c.add m.length w.heap.size 0) (m ++ [some ⟨cells, t, 0, false⟩]) { w with heap := w.heap.push (.cells (cells.map (Sc.conc c)).toArray t) } := by
  have hag := Con.add_agree c m.length w.heap.size 0
  have hι : ∀ b, b < m.length → (c.add m.length w.heap.size 0).ι b = c.ι b := fun b hb => (hag b hb).1
  have hlast : (c.add m.length w.heap.size 0).ι m.length = w.heap.size := by simp [Con.add]
  have hnth : ∀ b x, nth (m ++ [some ⟨cells, t, 0, false⟩]) b = some x → (b < m.length ∧ nth m b = some x) ∨ (b = m.length ∧ x = ⟨cells, t, 0, false⟩) := fun b x hx => by
    have hlt := nth_lt hx
    simp only [List.length_append, List.length_cons, List.length_nil] at hlt
    by_cases hb : b < m.length
    · rw [nth_append_lt hb] at hx; exact .inl ⟨hb, hx⟩
    · have : b = m.length := by omega
      subst this
      rw [nth_append_last] at hx
      exact .inr ⟨rfl, by simpa using hx.symm⟩
  constructor
  · refine ⟨fun b x hx => ?_, fun b x hx => ?_, fun b d x y hx hy e => ?_, fun b hb => ?_, fun b hb => ?_, fun r hr => ?_, ?_, h.os, h.tape, h.output⟩
    · rcases hnth b x hx with ⟨hb, hx⟩ | ⟨rfl, rfl⟩
      · obtain ⟨junk, h1, h2, h3⟩ := h.blk b x hx
        refine ⟨junk, ?_, h2, fun hg => ?_⟩
        · rw [hι b hb, concL_agree hag (h.cl b x hx)]
          simp only [Array.getElem?_push]
          rw [if_neg (by have := h.lt b hb; omega)]
          exact h1
        · rw [(hag b hb).2]; exact h3 hg
      · refine ⟨[], ?_, fun _ => rfl, fun hg => by cases hg⟩
        rw [hlast, concL_agree hag hcl]
        simp
    · rcases hnth b x hx with ⟨hb, hx⟩ | ⟨rfl, rfl⟩
      · exact closedL_mono (by simp) (h.cl b x hx)
      · exact closedL_mono (by simp) hcl
    · rcases hnth b x hx with ⟨hb, hx⟩ | ⟨rfl, rfl⟩ <;> rcases hnth d y hy with ⟨hd, hy⟩ | ⟨rfl, rfl⟩
      · rw [hι b hb, hι d hd] at e; exact h.inj b d x y hx hy e
      · rw [hι b hb, hlast] at e; have := h.lt b hb; omega
      · rw [hι d hd, hlast] at e; have := h.lt d hd; omega
      · rfl
    · simp only [List.length_append, List.length_cons, List.length_nil] at hb
      by_cases hlt : b < m.length
      · rw [hι b hlt]; exact h.ge b hlt
      · have : b = m.length := by omega
        subst this; rw [hlast]; exact h.size
    · simp only [List.length_append, List.length_cons, List.length_nil] at hb
      simp only [Array.size_push]
      by_cases hlt : b < m.length
      · rw [hι b hlt]; have := h.lt b hlt; omega
      · have : b = m.length := by omega
        subst this; rw [hlast]; omega
    · simp only [Array.getElem?_push]
      rw [if_neg (by have := h.size; omega)]
      exact h.ext r hr
    · simp only [Array.size_push]; have := h.size; omega
  · refine ⟨by simp, fun b hb => hag b hb, by simp, fun r hr _ => ?_, fun b x hx h1 => ?_, fun b x hx hb => ?_⟩
    · simp only [Array.getElem?_push]
      rw [if_neg (by omega)]
    · rcases hnth b x hx with ⟨hb, _⟩ | ⟨rfl, _⟩
      · omega
      · left; rw [hlast]; exact Nat.le_refl _
    · rcases hnth b x hx with ⟨_, hx⟩ | ⟨rfl, _⟩
      · exact ⟨x, hx⟩
      · omega

/-- Stores into one block. -/
theorem run_storeCells {b el : Nat} {fz : Nat × Nat} : ∀ (vs : List Value) (i : Nat) (o : Nat) (w : World) (cells : Array Value), w.heap[b]? = some (.cells cells el (0, 0)) → o + i + vs.length ≤ cells.size →
    (∀ v ∈ vs, one1 v = true) →
    (storeCells ⟨b, o, none⟩ vs i).run P w = .ok () { w with heap := w.heap.setIfInBounds b (.cells (cells.toList.take (o + i) ++ vs ++ cells.toList.drop (o + i + vs.length)).toArray el (0, 0)) }
  | [], i, o, w, cells, hw, hl, _ => by
    simp only [storeCells, Sem.run_pure, List.append_nil, List.length_nil, Nat.add_zero, List.take_append_drop]
    congr 1
    have : w.heap.setIfInBounds b (.cells cells.toList.toArray el (0, 0)) = w.heap := by
      apply Array.ext_getElem?
      intro j
      rw [Array.getElem?_setIfInBounds]
      split
      · rename_i e; subst e
        obtain ⟨hb, _⟩ := Array.getElem?_eq_some_iff.1 hw
        simp [hb]
        exact (Array.getElem?_eq_some_iff.1 hw).2.symm
      · rfl
    rw [this]
  | v :: vs, i, o, w, cells, hw, hl, hone => by
    simp only [List.length_cons] at hl
    have ha : (Addr.mk b o none).add i = ⟨b, o + i, none⟩ := by unfold Addr.add; split <;> simp_all
    have hc : w.cell? ⟨b, o + i, none⟩ = some (cells[o + i]'(by omega)) := by
      rw [cell_of_block hw]; simp
    have hf : w.frozen? ⟨b, o + i, none⟩ = false := by simp [World.frozen?, hw]
    have h1 : v.oneCell' = true := by
      have := hone v (by simp)
      cases v <;> first | rfl | cases this
    simp only [storeCells, Sem.run_bind, ha]
    rw [run_store P w _ v _ h1]
    simp only [hc, hf, Result.andThen_ok, Bool.false_eq_true, if_false]
    have hb : b < w.heap.size := (Array.getElem?_eq_some_iff.1 hw).1
    have hset : (w.setCell ⟨b, o + i, none⟩ v).heap[b]? = some (.cells (cells.setIfInBounds (o + i) v) el (0, 0)) := by
      simp only [World.setCell, Array.getElem?_modify, if_true, hw]
      simp
    rw [run_storeCells (fz := fz) vs (i + 1) o (w.setCell ⟨b, o + i, none⟩ v) (cells.setIfInBounds (o + i) v) hset (by simp; omega) (fun u hu => hone u (by simp [hu]))]
    congr 1
    simp only [World.setCell]
    congr 1
    apply Array.ext_getElem?
    intro j
    simp only [Array.getElem?_setIfInBounds, Array.getElem?_modify, Array.size_modify]
    split
    · rename_i e
      subst e
      have hlt : o + i < cells.toList.length := by simp; omega
      have e1 : (cells.toList.set (o + i) v).take (o + (i + 1)) = cells.toList.take (o + i) ++ [v] := by
        rw [show o + (i + 1) = o + i + 1 by omega, List.take_set, List.take_succ_eq_append_getElem hlt, List.set_append_right _ _ (by simp; omega)]
        simp
        rw [Nat.min_eq_left (by simpa using Nat.le_of_lt hlt)]
        simp
      have e2 : (cells.toList.set (o + i) v).drop (o + (i + 1) + vs.length) = cells.toList.drop (o + i + (vs.length + 1)) := by
        rw [List.drop_set_of_lt (by omega)]
        congr 1
        omega
      simp only [Array.toList_setIfInBounds, e1, e2]
      simp
    · rfl

theorem RelM.store (h : RelM W0 c m w) {b : Nat} {l cs vs : List Sc} {el : TypeId} {es : Nat} {gr : Bool} {o : Nat} (hx : nth m b = some ⟨l, el, es, gr⟩) (hp : putAt l o vs = some cs) (hv : closedL m.length vs = true) :
    ∃ w', (storeCells ⟨c.ι b, o, none⟩ (vs.map (Sc.conc c))).run P w = .ok () w' ∧ RelM W0 c (setB m b (some ⟨cs, el, es, gr⟩)) w' ∧ Since c m w c (setB m b (some ⟨cs, el, es, gr⟩)) w' := by
  obtain ⟨junk, h1, h2, h3⟩ := h.blk b _ hx
  obtain ⟨e, hlen⟩ := putAt_spec hp
  have hb := nth_lt hx
  have hrun := run_storeCells (P := P) (fz := (0, 0)) (vs.map (Sc.conc c)) 0 o w _ h1 (by simp; omega) (by
    intro v hv'
    obtain ⟨s, hs, rfl⟩ := List.mem_map.1 hv'
    exact Sc.conc_one c (closedL_iff.1 hv s hs))
  refine ⟨_, hrun, ?_, ?_⟩
  · have hcl : closedL m.length cs = true := putAt_closed hp (h.cl b _ hx) hv
    have hnth : ∀ d x, nth (setB m b (some ⟨cs, el, es, gr⟩)) d = some x → (d = b ∧ x = ⟨cs, el, es, gr⟩) ∨ (d ≠ b ∧ nth m d = some x) := fun d x hd => by
      by_cases hdb : d = b
      · subst hdb
        rw [nth_setB_same hx] at hd
        exact .inl ⟨rfl, by simpa using hd.symm⟩
      · rw [nth_setB_ne (Ne.symm hdb)] at hd; exact .inr ⟨hdb, hd⟩
    refine ⟨fun d x hd => ?_, fun d x hd => ?_, fun d d' x y hd hd' e' => ?_, fun d hd => ?_, fun d hd => ?_, fun r hr => ?_, by simpa using h.size, h.os, h.tape, h.output⟩
    · rcases hnth d x hd with ⟨rfl, rfl⟩ | ⟨hne, hd⟩
      · refine ⟨junk, ?_, h2, fun hg => ?_⟩
        · simp only [Array.getElem?_setIfInBounds, if_true]
          rw [if_pos (h.lt d hb)]
          congr 3
          simp only [e, Nat.add_zero]
          rw [List.take_append_of_le_length (by simp; omega), List.drop_append_of_le_length (by simp; omega)]
          simp [List.map_take, List.map_drop]
        · rw [← h3 hg]
          simp only [e]
          simp
          omega
      · obtain ⟨junk', k1, k2, k3⟩ := h.blk d x hd
        refine ⟨junk', ?_, k2, k3⟩
        simp only [Array.getElem?_setIfInBounds]
        rw [if_neg (fun e' => hne (h.inj d b x _ hd hx e'.symm))]
        exact k1
    · rw [length_setB]
      rcases hnth d x hd with ⟨rfl, rfl⟩ | ⟨hne, hd⟩
      · exact hcl
      · exact h.cl d x hd
    · have live : ∀ d x, nth (setB m b (some ⟨cs, el, es, gr⟩)) d = some x → ∃ y, nth m d = some y := fun d x hd => by
        rcases hnth d x hd with ⟨rfl, rfl⟩ | ⟨hne, hd⟩
        · exact ⟨_, hx⟩
        · exact ⟨_, hd⟩
      obtain ⟨x', hx'⟩ := live d x hd
      obtain ⟨y', hy'⟩ := live d' y hd'
      exact h.inj d d' x' y' hx' hy' e'
    · rw [length_setB] at hd; exact h.ge d hd
    · rw [length_setB] at hd; simpa using h.lt d hd
    · simp only [Array.getElem?_setIfInBounds]
      rw [if_neg (by have := h.ge b hb; omega)]
      exact h.ext r hr
  · refine ⟨by simp, fun _ _ => ⟨rfl, rfl⟩, by simp, fun r hr hno => ?_, fun d x hd h1 => absurd (nth_lt hd) (by rw [length_setB]; omega), fun d x hd hlt => ?_⟩
    · simp only [Array.getElem?_setIfInBounds]
      rw [if_neg (hno b _ hx)]
    · by_cases hdb : d = b
      · subst hdb; exact ⟨_, hx⟩
      · rw [nth_setB_ne (Ne.symm hdb)] at hd; exact ⟨_, hd⟩

end
end Go.Ev
