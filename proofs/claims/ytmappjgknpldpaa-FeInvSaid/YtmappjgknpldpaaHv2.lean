import Derived.Test.YtmappjgknpldpaaHv1
namespace Go.Hv
open Go.Ev
section
variable {P : Program} {A : Base} {c : Con} {m : HM} {w : World}

theorem Same.refl (w : World) : Same w w := ⟨Nat.le_refl _, rfl, rfl, rfl⟩
theorem Same.trans {w0 w1 w2 : World} (h : Same w0 w1) (k : Same w1 w2) : Same w0 w2 := ⟨Nat.le_trans h.size k.size, k.os.trans h.os, k.tape.trans h.tape, k.output.trans h.output⟩

theorem Since.refl (c : Con) (m : HM) (w : World) : Since c m w c m w :=
  ⟨Nat.le_refl _, fun _ _ => ⟨rfl, rfl⟩, Same.refl w, fun _ _ _ => rfl, fun b x h1 h2 => absurd (nth_lt h1) (by omega), fun b x h1 _ => ⟨x, h1⟩, fun _ _ h => .inl h⟩

theorem Since.agree' {c0 c1 : Con} {m0 m1 : HM} {w0 w1 : World} (h : Since c0 m0 w0 c1 m1 w1) : Agree m0.bs.length c0 c1 := h.agree

theorem Since.trans {c0 c1 c2 : Con} {m0 m1 m2 : HM} {w0 w1 w2 : World} (h : Since c0 m0 w0 c1 m1 w1) (k : Since c1 m1 w1 c2 m2 w2) : Since c0 m0 w0 c2 m2 w2 := by
  have back : ∀ b x, nth m1.bs b = some x → w0.heap.size ≤ c1.ι b ∨ ∃ d y, nth m0.bs d = some y ∧ c1.ι b = c0.ι d := fun b x hx => by
    by_cases hlt : b < m0.bs.length
    · obtain ⟨y, hy⟩ := h.live b x hx hlt
      exact .inr ⟨b, y, hy, (h.agree b hlt).1⟩
    · exact h.fresh b x hx (by omega)
  refine ⟨Nat.le_trans h.le k.le, fun b hb => ?_, h.same.trans k.same, fun r hr hno => ?_, fun b x hx h1 => ?_, fun b x hx hb => ?_, fun r o hn => ?_⟩
  · have h1 := h.agree b hb
    have h2 := k.agree b (by have := h.le; omega)
    exact ⟨h2.1.trans h1.1, h2.2.trans h1.2⟩
  · rw [k.keep r (by have := h.same.size; omega) (fun b x hx => ?_), h.keep r hr hno]
    intro e
    rcases back b x hx with h' | ⟨d, y, hy, h'⟩
    · omega
    · exact hno d y hy (by rw [← h']; exact e)
  · by_cases hlt : b < m1.bs.length
    · obtain ⟨y, hy⟩ := k.live b x hx hlt
      rw [(k.agree b hlt).1]
      exact h.fresh b y hy h1
    · rcases k.fresh b x hx (by omega) with h' | ⟨d, y, hy, h'⟩
      · left; have := h.same.size; omega
      · rw [h']; exact back d y hy
  · have hlt : b < m1.bs.length := Nat.lt_of_lt_of_le hb h.le
    obtain ⟨y, hy⟩ := k.live b x hx hlt
    exact h.live b y hy hb
  · rcases k.newN r o hn with h' | h' | ⟨d, y, hy, rfl⟩
    · exact h.newN r o h'
    · exact .inr (.inl (Nat.le_trans h.same.size h'))
    · rcases back d y hy with h' | ⟨d', y', hy', h'⟩
      · exact .inr (.inl h')
      · exact .inr (.inr ⟨d', y', hy', h'.symm⟩)

/-- A draw. -/
theorem Rel.drew (h : Rel A c m w) : Rel A c m { w with drawn := w.drawn + 1 } :=
  ⟨h.blk, h.cl, h.inj, h.lt, h.baseA, h.baseN, h.sepA, h.sepN⟩

theorem Since.drew (c : Con) (m : HM) (w : World) : Since c m w c m { w with drawn := w.drawn + 1 } :=
  ⟨Nat.le_refl _, fun _ _ => ⟨rfl, rfl⟩, ⟨Nat.le_refl _, rfl, rfl, rfl⟩, fun _ _ _ => rfl, fun b x h1 h2 => absurd (nth_lt h1) (by omega), fun b x h1 _ => ⟨x, h1⟩, fun _ _ h => .inl h⟩

theorem Rel.cell (h : Rel A c m w) {b o : Nat} {x : Blk} (hx : nth m.bs b = some x) {s : Sc} (hs : x.cells[o]? = some s) : w.cell? ⟨c.ι b, o, none⟩ = some (s.conc c) := by
  obtain ⟨junk, hj, _⟩ := h.blk b x hx
  rw [cell_of_block hj]
  obtain ⟨hlt, rfl⟩ := List.getElem?_eq_some_iff.1 hs
  simp [List.getElem?_append_left, hlt]

theorem bcell_in {B : Base} (h : BaseIn B w) {a : Addr} {v : Value} (hv : bcell B a v) : w.cell? a = some v := by
  obtain ⟨cells, el, fz, h1, h2, h3⟩ := hv
  have := h _ _ h1
  simp [World.cell?, this, h2, h3]

theorem baseIn_or {B B' : Base} (h : BaseIn B w) (h' : BaseIn B' w) : BaseIn (B.or B') w := fun r o hr => hr.elim (h r o) (h' r o)

/-- A value read out of a block. -/
theorem run_loadVar {t : TypeId} {i : TyI} (ht : RowOk P t i) (h : Rel A c m w) {b o : Nat} {x : Blk} (hx : nth m.bs b = some x) {v : TV} (hv : partV i.agg i.size x.cells o = some v) :
    (loadVar t ⟨c.ι b, o, none⟩).run P w = .ok (v.conc c) w := by
  unfold partV at hv
  simp only [loadVar, Sem.run_bind, ht.isAgg, Result.andThen_ok]
  cases hag : i.agg with
  | true =>
    rw [hag] at hv
    simp only at hv
    split at hv
    · rename_i r hr
      simp only [Option.some.injEq] at hv
      subst hv
      obtain ⟨e, hlen⟩ := takeAt_spec hr
      have hrl : r.length = i.size := by rw [e]; simp; omega
      have := run_loadCells (P := P) (w := w) (p := ⟨c.ι b, o, none⟩) (vs := r.map (Sc.conc c)) (fun j u hu => by
        rw [List.getElem?_map] at hu
        simp only [Option.map_eq_some_iff] at hu
        obtain ⟨s, hs, rfl⟩ := hu
        have : x.cells[o + j]? = some s := by
          rw [e] at hs
          rw [List.getElem?_take] at hs
          split at hs
          · simpa using hs
          · cases hs
        have ha : (Addr.mk (c.ι b) o none).add j = ⟨c.ι b, o + j, none⟩ := by unfold Addr.add; split <;> simp_all
        rw [ha]
        exact h.cell hx this)
      simp only [if_true, Sem.run_bind, ht.size, Result.andThen_ok]
      rw [show i.size = (r.map (Sc.conc c)).length by simp [hrl], this]
      simp [TV.conc]
    · cases hv
  | false =>
    rw [hag] at hv
    simp only at hv
    split at hv
    · rename_i s hr
      simp only [Option.some.injEq] at hv
      subst hv
      have := cell_part hr
      have hc := h.cell hx this
      simp [hc, TV.conc]
    · cases hv

theorem run_loadVar_ext {B : Base} {t : TypeId} {i : TyI} (ht : RowOk P t i) (h : BaseIn B w) {p : Addr} {v : TV} (hv : ERead B i.agg i.size p v) :
    (loadVar t p).run P w = .ok (v.conc c) w ∧ v.closed 0 = true := by
  unfold ERead at hv
  simp only [loadVar, Sem.run_bind, ht.isAgg, Result.andThen_ok]
  have ag0 : Agree 0 Con0 c := fun b hb => absurd hb (Nat.not_lt_zero b)
  cases hag : i.agg with
  | true =>
    rw [hag] at hv
    obtain ⟨l, hl, hc, hcl, rfl⟩ := hv
    have := run_loadCells (P := P) (w := w) (p := p) (vs := l.map (Sc.conc c)) (fun j u hu => by
      rw [List.getElem?_map] at hu
      simp only [Option.map_eq_some_iff] at hu
      obtain ⟨s, hs, rfl⟩ := hu
      rw [Sc.conc_agree ag0 (closedL_iff.1 hcl s (List.mem_of_getElem? hs))]
      exact bcell_in h (hc j s hs))
    simp only [if_true, Sem.run_bind, ht.size, Result.andThen_ok]
    rw [show i.size = (l.map (Sc.conc c)).length by simp [hl], this]
    exact ⟨by simp [TV.conc], hcl⟩
  | false =>
    rw [hag] at hv
    obtain ⟨s, hs, hcl, rfl⟩ := hv
    have := bcell_in h hs
    rw [← Sc.conc_agree ag0 hcl] at this
    exact ⟨by simp [this, TV.conc], hcl⟩

/-- A new block, that the walk owns: with what it does not know behind its cells. -/
theorem Rel.push' (h : Rel A c m w) {x : Blk} {junk : List Value} (hcl : closedL m.bs.length x.cells = true) (hj0 : x.grows = false → junk = []) (hj1 : x.grows = true → x.cells.length + junk.length = x.es) (k : Nat) :
    Rel A (c.add m.bs.length w.heap.size 0) ⟨m.bs ++ [some x], m.N⟩ { w with heap := w.heap.push (.cells (x.cells.map (Sc.conc c) ++ junk).toArray x.elem), drawn := w.drawn + k } ∧
    Since c m w (c.add m.bs.length w.heap.size 0) ⟨m.bs ++ [some x], m.N⟩ { w with heap := w.heap.push (.cells (x.cells.map (Sc.conc c) ++ junk).toArray x.elem), drawn := w.drawn + k } := by
  have hag := Con.add_agree c m.bs.length w.heap.size 0
  have hι : ∀ b, b < m.bs.length → (c.add m.bs.length w.heap.size 0).ι b = c.ι b := fun b hb => (hag b hb).1
  have hlast : (c.add m.bs.length w.heap.size 0).ι m.bs.length = w.heap.size := by simp [Con.add]
  have hnth : ∀ b y, nth (m.bs ++ [some x]) b = some y → (b < m.bs.length ∧ nth m.bs b = some y) ∨ (b = m.bs.length ∧ y = x) := fun b y hy => by
    have hlt := nth_lt hy
    simp only [List.length_append, List.length_cons, List.length_nil] at hlt
    by_cases hb : b < m.bs.length
    · rw [nth_append_lt hb] at hy; exact .inl ⟨hb, hy⟩
    · have : b = m.bs.length := by omega
      subst this
      rw [nth_append_last] at hy
      exact .inr ⟨rfl, by simpa using hy.symm⟩
  have keepB : ∀ B : Base, BaseIn B w → BaseIn B { w with heap := w.heap.push (.cells (x.cells.map (Sc.conc c) ++ junk).toArray x.elem), drawn := w.drawn + k } := fun B hB r o hr => by
    have := hB r o hr
    simp only [Array.getElem?_push]
    rw [if_neg (by have := (Array.getElem?_eq_some_iff.1 this).1; omega)]
    exact this
  have sepB : ∀ B : Base, BaseIn B w → ∀ o, ¬ B w.heap.size o := fun B hB o hr => by
    have := (Array.getElem?_eq_some_iff.1 (hB _ _ hr)).1
    omega
  constructor
  · refine ⟨fun b y hy => ?_, fun b y hy => ?_, fun b d y z hy hz e => ?_, fun b hb => ?_, keepB _ h.baseA, keepB _ h.baseN, fun b y o hy => ?_, fun b y o hy => ?_⟩
    · rcases hnth b y hy with ⟨hb, hy⟩ | ⟨rfl, rfl⟩
      · obtain ⟨junk', h1, h2, h3⟩ := h.blk b y hy
        refine ⟨junk', ?_, h2, h3⟩
        rw [hι b hb, concL_agree hag (h.cl b y hy)]
        simp only [Array.getElem?_push]
        rw [if_neg (by have := h.lt b hb; omega)]
        exact h1
      · refine ⟨junk, ?_, hj0, hj1⟩
        rw [hlast, concL_agree hag hcl]
        simp
    · rcases hnth b y hy with ⟨hb, hy⟩ | ⟨rfl, rfl⟩
      · exact closedL_mono (by simp) (h.cl b y hy)
      · exact closedL_mono (by simp) hcl
    · rcases hnth b y hy with ⟨hb, hy⟩ | ⟨rfl, rfl⟩ <;> rcases hnth d z hz with ⟨hd, hz⟩ | ⟨rfl, rfl⟩
      · rw [hι b hb, hι d hd] at e; exact h.inj b d y z hy hz e
      · rw [hι b hb, hlast] at e; have := h.lt b hb; omega
      · rw [hι d hd, hlast] at e; have := h.lt d hd; omega
      · rfl
    · simp only [List.length_append, List.length_cons, List.length_nil] at hb
      simp only [Array.size_push]
      by_cases hlt : b < m.bs.length
      · rw [hι b hlt]; have := h.lt b hlt; omega
      · have : b = m.bs.length := by omega
        subst this; rw [hlast]; omega
    · rcases hnth b y hy with ⟨hb, hy⟩ | ⟨rfl, rfl⟩
      · rw [hι b hb]; exact h.sepA b y o hy
      · rw [hlast]; exact sepB _ h.baseA o
    · rcases hnth b y hy with ⟨hb, hy⟩ | ⟨rfl, rfl⟩
      · rw [hι b hb]; exact h.sepN b y o hy
      · rw [hlast]; exact sepB _ h.baseN o
  · refine ⟨by simp, fun b hb => hag b hb, ⟨by simp, rfl, rfl, rfl⟩, fun r hr _ => ?_, fun b y hy h1 => ?_, fun b y hy hb => ?_, fun _ _ hn => .inl hn⟩
    · simp only [Array.getElem?_push]
      rw [if_neg (by omega)]
    · rcases hnth b y hy with ⟨hb, _⟩ | ⟨rfl, _⟩
      · omega
      · left; rw [hlast]; exact Nat.le_refl _
    · rcases hnth b y hy with ⟨_, hy⟩ | ⟨rfl, _⟩
      · exact ⟨y, hy⟩
      · omega

theorem Rel.push (h : Rel A c m w) {cells : List Sc} {t : TypeId} (hcl : closedL m.bs.length cells = true) :
    Rel A (c.add m.bs.length w.heap.size 0) ⟨m.bs ++ [some ⟨cells, t, 0, false⟩], m.N⟩ { w with heap := w.heap.push (.cells (cells.map (Sc.conc c)).toArray t) } ∧
    Since c m w (c.add m.bs.length w.heap.size 0) ⟨m.bs ++ [some ⟨cells, t, 0, false⟩], m.N⟩ { w with heap := w.heap.push (.cells (cells.map (Sc.conc c)).toArray t) } := by
  have := h.push' (x := ⟨cells, t, 0, false⟩) (junk := []) hcl (fun _ => rfl) (fun h => by cases h) 0
  simpa using this

theorem Rel.store (h : Rel A c m w) {b : Nat} {l cs vs : List Sc} {el : TypeId} {es : Nat} {gr : Bool} {o : Nat} (hx : nth m.bs b = some ⟨l, el, es, gr⟩) (hp : putAt l o vs = some cs) (hv : closedL m.bs.length vs = true) :
    ∃ w', (storeCells ⟨c.ι b, o, none⟩ (vs.map (Sc.conc c))).run P w = .ok () w' ∧ Rel A c ⟨setB m.bs b (some ⟨cs, el, es, gr⟩), m.N⟩ w' ∧ Since c m w c ⟨setB m.bs b (some ⟨cs, el, es, gr⟩), m.N⟩ w' := by
  obtain ⟨junk, h1, h2, h3⟩ := h.blk b _ hx
  obtain ⟨e, hlen⟩ := putAt_spec hp
  have hb := nth_lt hx
  have hrun := run_storeCells (P := P) (fz := (0, 0)) (vs.map (Sc.conc c)) 0 o w _ h1 (by simp; omega) (by
    intro v hv'
    obtain ⟨s, hs, rfl⟩ := List.mem_map.1 hv'
    exact Sc.conc_one c (closedL_iff.1 hv s hs))
  refine ⟨_, hrun, ?_, ?_⟩
  · have hcl : closedL m.bs.length cs = true := putAt_closed hp (h.cl b _ hx) hv
    have hnth : ∀ d x, nth (setB m.bs b (some ⟨cs, el, es, gr⟩)) d = some x → (d = b ∧ x = ⟨cs, el, es, gr⟩) ∨ (d ≠ b ∧ nth m.bs d = some x) := fun d x hd => by
      by_cases hdb : d = b
      · subst hdb
        rw [nth_setB_same hx] at hd
        exact .inl ⟨rfl, by simpa using hd.symm⟩
      · rw [nth_setB_ne (Ne.symm hdb)] at hd; exact .inr ⟨hdb, hd⟩
    have live : ∀ d x, nth (setB m.bs b (some ⟨cs, el, es, gr⟩)) d = some x → ∃ y, nth m.bs d = some y := fun d x hd => by
      rcases hnth d x hd with ⟨rfl, rfl⟩ | ⟨hne, hd⟩
      · exact ⟨_, hx⟩
      · exact ⟨_, hd⟩
    have keepB : ∀ B : Base, BaseIn B w → (∀ o, ¬ B (c.ι b) o) → BaseIn B { w with heap := w.heap.setIfInBounds (c.ι b) (.cells ((l.map (Sc.conc c) ++ junk).toArray.toList.take (o + 0) ++ vs.map (Sc.conc c) ++ (l.map (Sc.conc c) ++ junk).toArray.toList.drop (o + 0 + (vs.map (Sc.conc c)).length)).toArray el (0, 0)) } := fun B hB hs r o' hr => by
      simp only [Array.getElem?_setIfInBounds]
      rw [if_neg (fun e' => by subst e'; exact hs _ hr)]
      exact hB r o' hr
    refine ⟨fun d x hd => ?_, fun d x hd => ?_, fun d d' x y hd hd' e' => ?_, fun d hd => ?_, keepB _ h.baseA (fun o' => h.sepA b _ o' hx), keepB _ h.baseN (fun o' => h.sepN b _ o' hx), fun d x o' hd => ?_, fun d x o' hd => ?_⟩
    · rcases hnth d x hd with ⟨rfl, rfl⟩ | ⟨hne, hd⟩
      · refine ⟨junk, ?_, h2, fun hg => ?_⟩
        · simp only [Array.getElem?_setIfInBounds, if_true]
          rw [if_pos (h.lt d hb)]
          congr 3
          simp only [e, Nat.add_zero]
          rw [List.take_append_of_le_length (by simp; omega), List.drop_append_of_le_length (by simp; omega)]
          simp [List.map_take, List.map_drop]
        · rw [← h3 hg]
          simp only [e]
          simp
          omega
      · obtain ⟨junk', k1, k2, k3⟩ := h.blk d x hd
        refine ⟨junk', ?_, k2, k3⟩
        simp only [Array.getElem?_setIfInBounds]
        rw [if_neg (fun e' => hne (h.inj d b x _ hd hx e'.symm))]
        exact k1
    · rw [length_setB]
      rcases hnth d x hd with ⟨rfl, rfl⟩ | ⟨hne, hd⟩
      · exact hcl
      · exact h.cl d x hd
    · obtain ⟨x', hx'⟩ := live d x hd
      obtain ⟨y', hy'⟩ := live d' y hd'
      exact h.inj d d' x' y' hx' hy' e'
    · rw [length_setB] at hd; simpa using h.lt d hd
    · obtain ⟨x', hx'⟩ := live d x hd
      exact h.sepA d x' o' hx'
    · obtain ⟨x', hx'⟩ := live d x hd
      exact h.sepN d x' o' hx'
  · refine ⟨by simp, fun _ _ => ⟨rfl, rfl⟩, ⟨by simp, rfl, rfl, rfl⟩, fun r hr hno => ?_, fun d x hd h1 => absurd (nth_lt hd) (by simp only [length_setB]; omega), fun d x hd hlt => ?_, fun _ _ hn => .inl hn⟩
    · simp only [Array.getElem?_setIfInBounds]
      rw [if_neg (hno b _ hx)]
    · by_cases hdb : d = b
      · subst hdb; exact ⟨_, hx⟩
      · rw [nth_setB_ne (Ne.symm hdb)] at hd; exact ⟨_, hd⟩

/-- An entry forgotten. -/
theorem nth_setB_none {l : Mem} {b d : Nat} {x : Blk} (h : nth (setB l b none) d = some x) : d ≠ b ∧ nth l d = some x := by
  by_cases hdb : d = b
  · subst hdb
    rw [nth_eq, setB_eq] at h
    exfalso
    have hlt := (List.getElem?_eq_some_iff.1 h).1
    simp at hlt
    simp [hlt] at h
  · rw [nth_setB_ne (Ne.symm hdb)] at h; exact ⟨hdb, h⟩

theorem Rel.sub (h : Rel A c m w) {bs : Mem} (hs : ∀ b x, nth bs b = some x → nth m.bs b = some x) (hl : bs.length = m.bs.length) : Rel A c ⟨bs, m.N⟩ w :=
  ⟨fun b x hx => h.blk b x (hs b x hx), fun b x hx => by rw [hl]; exact h.cl b x (hs b x hx), fun a b x y hx hy => h.inj a b x y (hs a x hx) (hs b y hy), fun b hb => h.lt b (by rw [← hl]; exact hb),
    h.baseA, h.baseN, fun b x o hx => h.sepA b x o (hs b x hx), fun b x o hx => h.sepN b x o (hs b x hx)⟩

/-- More is known: what nobody writes. -/
theorem Rel.more (h : Rel A c m w) {w' : World} {N1 : Base} (hk : ∀ r, r < w.heap.size → w'.heap[r]? = w.heap[r]?) (hs : w.heap.size ≤ w'.heap.size) (hN : BaseIn N1 w') (hf : ∀ r o, N1 r o → m.N r o ∨ w.heap.size ≤ r) :
    Rel A c ⟨m.bs, N1⟩ w' := by
  refine ⟨fun b x hx => ?_, h.cl, h.inj, fun b hb => Nat.lt_of_lt_of_le (h.lt b hb) hs, fun r o hr => ?_, hN, h.sepA, fun b x o hx hn => ?_⟩
  · obtain ⟨junk, k1, k2⟩ := h.blk b x hx
    exact ⟨junk, by rw [hk _ (h.lt b (nth_lt hx))]; exact k1, k2⟩
  · have := h.baseA r o hr
    rw [hk r (Array.getElem?_eq_some_iff.1 this).1]; exact this
  · rcases hf _ _ hn with h' | h'
    · exact h.sepN b x o hx h'
    · have := h.lt b (nth_lt hx); omega

end
end Go.Hv
