import Derived.Test.YtmappjgknpldpaaEv3
namespace Go.Ev
section
variable {P : Program} {n : Nat}

theorem splice_fold (vs : List Value) : ∀ (o k : Nat) (cs : Array Value), o + k + vs.length ≤ cs.size →
    (vs.zipIdx k).foldl (fun (cs : Array Value) (p : Value × Nat) => cs.setIfInBounds (o + p.2) p.1) cs = (cs.toList.take (o + k) ++ vs ++ cs.toList.drop (o + k + vs.length)).toArray := by
  induction vs with
  | nil => intro o k cs _; apply Array.ext'; simp
  | cons v vs ih =>
    intro o k cs h
    simp only [List.zipIdx_cons, List.foldl_cons]
    simp only [List.length_cons] at h
    rw [ih o (k + 1) (cs.setIfInBounds (o + k) v) (by simp; omega)]
    apply Array.ext'
    simp only [Array.toList_setIfInBounds, List.length_cons]
    have h1 : o + (k + 1) = o + k + 1 := by omega
    rw [h1]
    have hlt : o + k < cs.toList.length := by simp; omega
    have e1 : (cs.toList.set (o + k) v).take (o + k + 1) = cs.toList.take (o + k) ++ [v] := by
      rw [List.take_set, List.take_succ_eq_append_getElem hlt, List.set_append_right _ _ (by simp; omega)]
      simp
      rw [Nat.min_eq_left (by simpa using Nat.le_of_lt hlt)]
      simp
    have e2 : (cs.toList.set (o + k) v).drop (o + k + 1 + vs.length) = cs.toList.drop (o + k + (vs.length + 1)) := by
      rw [List.drop_set_of_lt (by omega)]
      congr 1
      omega
    rw [e1, e2]
    simp

/-- One part laid. -/
theorem fold_put {c : Con} {l vs r : List Sc} {o : Nat} (h : putAt l o vs = some r) :
    ((vs.map (Sc.conc c)).toArray.zipIdx.foldl (fun (cs : Array Value) (p : Value × Nat) => cs.setIfInBounds (o + p.2) p.1) (l.map (Sc.conc c)).toArray) = (r.map (Sc.conc c)).toArray := by
  obtain ⟨e, hlen⟩ := putAt_spec h
  have := splice_fold (vs.map (Sc.conc c)) o 0 (l.map (Sc.conc c)).toArray (by simpa using hlen)
  rw [← Array.foldl_toList]
  simp only [Array.toList_zipIdx]
  rw [this, e]
  apply Array.ext'
  simp [List.map_take, List.map_drop]

theorem putAt_closed {n : Nat} {l vs r : List Sc} {o : Nat} (h : putAt l o vs = some r) (hl : closedL n l = true) (hv : closedL n vs = true) : closedL n r = true := by
  obtain ⟨rfl, _⟩ := putAt_spec h
  refine closedL_iff.2 fun s hs => ?_
  simp only [List.mem_append] at hs
  rcases hs with (hs | hs) | hs
  · exact closedL_iff.1 hl s (List.mem_of_mem_take hs)
  · exact closedL_iff.1 hv s hs
  · exact closedL_iff.1 hl s (List.mem_of_mem_drop hs)

theorem fillS_sound (fs : List (Nat × Nat × Bool)) (place : Nat → Option (Nat × Nat)) (hp : ∀ j off size ag, nthF fs j = some (off, size, ag) → place j = some (off, size)) (c : Con) :
    ∀ (ps : List (Nat × TV)) (l r : List Sc), (∀ p ∈ ps, p.2.closed n = true) → fillS fs l ps = some r → Instr.fill place (l.map (Sc.conc c)).toArray (ps.map fun p => (p.1, p.2.conc c)) = some (r.map (Sc.conc c)).toArray
  | [], l, r, _, h => by simp [fillS] at h; subst h; simp [Instr.fill]
  | (i, v) :: ps, l, r, hcl, h => by
    simp only [fillS] at h
    split at h
    · rename_i off size ag vs hn hv
      split at h
      · rename_i hs
        split at h
        · rename_i l' hput
          have hs := Nat.eq_of_beq_eq_true hs
          obtain ⟨_, hlen⟩ := putAt_spec hput
          have hc := TV.cells_conc (c := c) hv (hcl (i, v) (by simp))
          simp only [List.map_cons, Instr.fill, hp _ _ _ _ hn, hc]
          have h1 : ¬ ((decide ((List.map (Sc.conc c) vs).toArray.size ≠ size) || decide (off + (List.map (Sc.conc c) vs).toArray.size > (List.map (Sc.conc c) l).toArray.size)) = true) := by
            simp; omega
          rw [if_neg h1]
          rw [fold_put hput]
          exact fillS_sound fs place hp c ps l' r (fun p hp => hcl p (by simp [hp])) h
        · cases h
      · cases h
    · cases h

theorem fillA_sound (es : Nat) (c : Con) :
    ∀ (ps : List (Nat × TV)) (l r : List Sc), (∀ p ∈ ps, p.2.closed n = true) → fillA es l ps = some r → Instr.fill (fun i => some (i * es, es)) (l.map (Sc.conc c)).toArray (ps.map fun p => (p.1, p.2.conc c)) = some (r.map (Sc.conc c)).toArray
  | [], l, r, _, h => by simp [fillA] at h; subst h; simp [Instr.fill]
  | (i, v) :: ps, l, r, hcl, h => by
    simp only [fillA] at h
    split at h
    · rename_i vs hv
      split at h
      · rename_i hs
        split at h
        · rename_i l' hput
          have hs := Nat.eq_of_beq_eq_true hs
          obtain ⟨_, hlen⟩ := putAt_spec hput
          have hc := TV.cells_conc (c := c) hv (hcl (i, v) (by simp))
          simp only [List.map_cons, Instr.fill, hc]
          have h1 : ¬ ((decide ((List.map (Sc.conc c) vs).toArray.size ≠ es) || decide (i * es + (List.map (Sc.conc c) vs).toArray.size > (List.map (Sc.conc c) l).toArray.size)) = true) := by
            simp; omega
          rw [if_neg h1, fold_put hput]
          exact fillA_sound es c ps l' r (fun p hp => hcl p (by simp [hp])) h
        · cases h
      · cases h
    · cases h

theorem fillS_closed (fs : List (Nat × Nat × Bool)) : ∀ (ps : List (Nat × TV)) (l r : List Sc), fillS fs l ps = some r → closedL n l = true → (∀ p ∈ ps, p.2.closed n = true) → closedL n r = true
  | [], l, r, h, hl, _ => by simp [fillS] at h; subst h; exact hl
  | (i, v) :: ps, l, r, h, hl, hps => by
    simp only [fillS] at h
    split at h
    · rename_i off size ag vs hn hv
      split at h
      · split at h
        · rename_i l' hput
          exact fillS_closed fs ps l' r h (putAt_closed hput hl (TV.cells_closed hv (hps (i, v) (by simp)))) (fun p hp => hps p (by simp [hp]))
        · cases h
      · cases h
    · cases h

theorem fillA_closed (es : Nat) : ∀ (ps : List (Nat × TV)) (l r : List Sc), fillA es l ps = some r → closedL n l = true → (∀ p ∈ ps, p.2.closed n = true) → closedL n r = true
  | [], l, r, h, hl, _ => by simp [fillA] at h; subst h; exact hl
  | (i, v) :: ps, l, r, h, hl, hps => by
    simp only [fillA] at h
    split at h
    · rename_i vs hv
      split at h
      · split at h
        · rename_i l' hput
          exact fillA_closed es ps l' r h (putAt_closed hput hl (TV.cells_closed hv (hps (i, v) (by simp)))) (fun p hp => hps p (by simp [hp]))
        · cases h
      · cases h
    · cases h

end
end Go.Ev
