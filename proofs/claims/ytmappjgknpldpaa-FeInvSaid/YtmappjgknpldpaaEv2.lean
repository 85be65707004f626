import Derived.Test.YtmappjgknpldpaaEv1
import Derived.Laws.Sem
namespace Go.Ev

/-! ## Lists of cells -/

theorem takeAt_spec : ∀ {l : List Sc} {o n : Nat} {r : List Sc}, takeAt l o n = some r → r = (l.drop o).take n ∧ o + n ≤ l.length
  | [], 0, 0, r, h => by simp [takeAt] at h; simp [← h]
  | _ :: _, 0, 0, r, h => by simp [takeAt] at h; simp [← h]
  | [], 0, n + 1, r, h => by simp [takeAt] at h
  | [], o + 1, n, r, h => by simp [takeAt] at h
  | c :: cs, 0, n + 1, r, h => by
    simp only [takeAt] at h
    split at h
    · rename_i r' hr
      obtain ⟨e1, e2⟩ := takeAt_spec hr
      simp only [Option.some.injEq] at h
      subst h; subst e1
      simp at e2 ⊢; omega
    · cases h
  | c :: cs, o + 1, n, r, h => by
    simp only [takeAt] at h
    obtain ⟨e1, e2⟩ := takeAt_spec h
    simp only [List.drop_succ_cons, List.length_cons]
    exact ⟨e1, by omega⟩

theorem putAt_spec : ∀ {l : List Sc} {o : Nat} {vs r : List Sc}, putAt l o vs = some r → r = l.take o ++ vs ++ l.drop (o + vs.length) ∧ o + vs.length ≤ l.length
  | [], 0, [], r, h => by simp [putAt] at h; simp [h]
  | _ :: _, 0, [], r, h => by simp [putAt] at h; simp [h]
  | [], 0, v :: vs, r, h => by simp [putAt] at h
  | [], o + 1, vs, r, h => by cases vs <;> simp [putAt] at h
  | c :: cs, 0, v :: vs, r, h => by
    simp only [putAt] at h
    split at h
    · rename_i r' hr
      obtain ⟨e1, e2⟩ := putAt_spec hr
      simp only [Option.some.injEq] at h
      subst h
      simp at e1 e2
      simp [e1]
      omega
    · cases h
  | c :: cs, o + 1, vs, r, h => by
    have h' : ∃ r', putAt cs o vs = some r' ∧ r = c :: r' := by
      cases vs <;> (simp only [putAt] at h; split at h) <;> first | (rename_i r' hr; exact ⟨r', hr, by simpa using h.symm⟩) | cases h
    obtain ⟨r', hr, rfl⟩ := h'
    obtain ⟨e1, e2⟩ := putAt_spec hr
    refine ⟨?_, by simp; omega⟩
    have : o + 1 + vs.length = (o + vs.length) + 1 := by omega
    simp [this, e1]

theorem nth_eq : ∀ (m : Mem) (b : Nat) (x : Blk), nth m b = some x ↔ m[b]? = some (some x)
  | [], b, x => by simp [nth]
  | y :: m, 0, x => by simp [nth]
  | y :: m, b + 1, x => by simp [nth, nth_eq m b x]

theorem nth_lt {m : Mem} {b : Nat} {x : Blk} (h : nth m b = some x) : b < m.length := by
  rw [nth_eq] at h
  exact (List.getElem?_eq_some_iff.1 h).1

theorem setB_eq : ∀ (m : Mem) (b : Nat) (x : Option Blk), setB m b x = m.set b x
  | [], b, x => by simp [setB]
  | y :: m, 0, x => by simp [setB]
  | y :: m, b + 1, x => by simp [setB, setB_eq m b x]

theorem snoc_eq : ∀ (m : Mem) (x : Option Blk), snoc m x = (m.length, m ++ [x])
  | [], x => by simp [snoc]
  | y :: m, x => by simp [snoc, snoc_eq m x]

@[simp] theorem length_setB (m : Mem) (b : Nat) (x : Option Blk) : (setB m b x).length = m.length := by simp [setB_eq]

theorem nth_setB_same {m : Mem} {b : Nat} {x y : Blk} (h : nth m b = some y) : nth (setB m b (some x)) b = some x := by
  rw [nth_eq, setB_eq]
  have := nth_lt h
  simp [this]

theorem nth_setB_ne {m : Mem} {a b : Nat} {x : Option Blk} (h : b ≠ a) : nth (setB m b x) a = nth m a := by
  cases ha : nth m a with
  | some y => rw [nth_eq] at ha ⊢; rw [setB_eq, List.getElem?_set_ne h]; exact ha
  | none =>
    cases hb : nth (setB m b x) a with
    | none => rfl
    | some y =>
      rw [nth_eq, setB_eq, List.getElem?_set_ne h, ← nth_eq] at hb
      rw [ha] at hb; cases hb

theorem nth_append_lt {m : Mem} {b : Nat} {x : List (Option Blk)} (h : b < m.length) : nth (m ++ x) b = nth m b := by
  cases ha : nth m b with
  | some y => rw [nth_eq] at ha ⊢; rw [List.getElem?_append_left h]; exact ha
  | none =>
    cases hb : nth (m ++ x) b with
    | none => rfl
    | some y =>
      rw [nth_eq, List.getElem?_append_left h, ← nth_eq] at hb
      rw [ha] at hb; cases hb

theorem nth_append_last {m : Mem} {x : Option Blk} : nth (m ++ [x]) m.length = x := by
  cases x with
  | some y => rw [nth_eq]; simp
  | none =>
    cases hb : nth (m ++ [none]) m.length with
    | none => rfl
    | some y => rw [nth_eq] at hb; simp at hb

/-! ## Closedness, and what stands for what when more is known -/

theorem blt_lt {a b : Nat} : Nat.blt a b = true ↔ a < b := by simp [Nat.blt]; omega

theorem SP.closed_mono {n n' : Nat} (h : n ≤ n') : ∀ {p : SP}, p.closed n = true → p.closed n' = true
  | .loc b o, hp => by simp only [SP.closed, blt_lt] at *; omega
  | .ext a, _ => rfl

theorem Sc.closed_mono {n n' : Nat} (h : n ≤ n') : ∀ {s : Sc}, s.closed n = true → s.closed n' = true
  | .int .., _ | .bool .., _ | .str .., _ | .ptr none, _ | .slice none _ _, _ => rfl
  | .raw _, hs => hs
  | .ptr (some _), hs | .slice (some _) _ _, hs => SP.closed_mono h hs
  | .buf b _, hs => by simp only [Sc.closed, blt_lt] at *; omega

theorem closedL_iff {n : Nat} : ∀ {l : List Sc}, closedL n l = true ↔ ∀ s ∈ l, s.closed n = true
  | [] => by simp [closedL]
  | s :: l => by
    simp only [closedL, List.mem_cons, forall_eq_or_imp]
    rw [← closedL_iff (l := l)]
    cases s.closed n <;> simp

theorem closedL_mono {n n' : Nat} (h : n ≤ n') {l : List Sc} (hl : closedL n l = true) : closedL n' l = true :=
  closedL_iff.2 fun s hs => Sc.closed_mono h (closedL_iff.1 hl s hs)

theorem closedT_iff {n : Nat} : ∀ {l : List TC}, closedT n l = true ↔ ∀ s ∈ l, s.closed n = true
  | [] => by simp [closedT]
  | s :: l => by
    simp only [closedT, List.mem_cons, forall_eq_or_imp]
    rw [← closedT_iff (l := l)]
    cases s.closed n <;> simp

theorem TC.closed_mono {n n' : Nat} (h : n ≤ n') : ∀ {v : TC}, v.closed n = true → v.closed n' = true
  | .one _, hv => Sc.closed_mono h hv
  | .agg _, hv => closedL_mono h hv

theorem TV.closed_mono {n n' : Nat} (h : n ≤ n') : ∀ {v : TV}, v.closed n = true → v.closed n' = true
  | .one _, hv => Sc.closed_mono h hv
  | .agg _, hv => closedL_mono h hv
  | .tup _, hv => closedT_iff.2 fun s hs => TC.closed_mono h (closedT_iff.1 hv s hs)

def Agree (n : Nat) (c c' : Con) : Prop := ∀ b, b < n → c'.ι b = c.ι b ∧ c'.κ b = c.κ b

theorem SP.conc_agree {n : Nat} {c c' : Con} (h : Agree n c c') : ∀ {p : SP}, p.closed n = true → p.conc c' = p.conc c
  | .loc b o, hp => by simp only [SP.closed, blt_lt] at hp; simp [SP.conc, (h b hp).1]
  | .ext a, _ => rfl

theorem Sc.conc_agree {n : Nat} {c c' : Con} (h : Agree n c c') : ∀ {s : Sc}, s.closed n = true → s.conc c' = s.conc c
  | .int .., _ | .bool .., _ | .str .., _ | .raw .., _ | .ptr none, _ | .slice none _ _, _ => rfl
  | .ptr (some _), hs | .slice (some _) _ _, hs => by
    have := SP.conc_agree h hs
    simp [Sc.conc, this]
  | .buf b _, hs => by simp only [Sc.closed, blt_lt] at hs; simp [Sc.conc, (h b hs).1, (h b hs).2]

theorem concL_agree {n : Nat} {c c' : Con} (h : Agree n c c') {l : List Sc} (hl : closedL n l = true) : l.map (Sc.conc c') = l.map (Sc.conc c) :=
  List.map_congr_left fun s hs => Sc.conc_agree h (closedL_iff.1 hl s hs)

theorem TC.conc_agree {n : Nat} {c c' : Con} (h : Agree n c c') : ∀ {v : TC}, v.closed n = true → v.conc c' = v.conc c
  | .one _, hv => Sc.conc_agree h hv
  | .agg _, hv => by simp [TC.conc, concL_agree h hv]

theorem TV.conc_agree {n : Nat} {c c' : Con} (h : Agree n c c') : ∀ {v : TV}, v.closed n = true → v.conc c' = v.conc c
  | .one _, hv => Sc.conc_agree h hv
  | .agg _, hv => by simp [TV.conc, concL_agree h hv]
  | .tup l, hv => by
    have : l.map (TC.conc c') = l.map (TC.conc c) := List.map_congr_left fun s hs => TC.conc_agree h (closedT_iff.1 hv s hs)
    simp [TV.conc, this]

theorem TC.tv_conc (c : Con) (v : TC) : v.tv.conc c = v.conc c := by cases v <;> rfl
theorem TC.tv_closed (n : Nat) (v : TC) : v.tv.closed n = v.closed n := by cases v <;> rfl
theorem TV.tc_conc {c : Con} {v : TV} {u : TC} (h : v.tc = some u) : u.conc c = v.conc c := by
  cases v <;> simp [TV.tc] at h <;> subst h <;> rfl
theorem TV.tc_closed {n : Nat} {v : TV} {u : TC} (h : v.tc = some u) : u.closed n = v.closed n := by
  cases v <;> simp [TV.tc] at h <;> subst h <;> rfl

theorem Sc.conc_one {n : Nat} (c : Con) {s : Sc} (h : s.closed n = true) : one1 (s.conc c) = true := by
  cases s <;> first | rfl | exact h

theorem cells_one1 {v : Value} (h : one1 v = true) : v.cells = #[v] := by
  cases v <;> simp_all [one1, Value.cells]

theorem TV.cells_conc {c : Con} {n : Nat} {v : TV} {l : List Sc} (h : v.cells = some l) (hv : v.closed n = true) : (v.conc c).cells = (l.map (Sc.conc c)).toArray := by
  cases v with
  | one s =>
    simp [TV.cells] at h; subst h
    simp only [TV.conc, cells_one1 (Sc.conc_one c (n := n) (s := s) hv)]
    rfl
  | agg l' => simp [TV.cells] at h; subst h; simp [TV.conc, Value.cells]
  | tup l' => simp [TV.cells] at h

theorem TV.cells_closed {n : Nat} {v : TV} {l : List Sc} (h : v.cells = some l) (hv : v.closed n = true) : closedL n l = true := by
  cases v with
  | one s => simp [TV.cells] at h; subst h; exact closedL_iff.2 (by simpa [TV.closed] using hv)
  | agg l' => simp [TV.cells] at h; subst h; exact hv
  | tup l' => simp [TV.cells] at h

theorem cst1_conc (c : Con) (v : Value) : (cst1 v).conc c = v := by
  unfold cst1; split <;> simp [Sc.conc]

theorem cst1_closed (n : Nat) {v : Value} (h : one1 v = true) : (cst1 v).closed n = true := by
  unfold cst1; split <;> simp_all [Sc.closed]

theorem cstL_spec (c : Con) (n : Nat) : ∀ {vs : List Value} {l : List Sc}, cstL vs = some l → l.map (Sc.conc c) = vs ∧ closedL n l = true
  | [], l, h => by simp [cstL] at h; subst h; exact ⟨rfl, rfl⟩
  | v :: vs, l, h => by
    simp only [cstL] at h
    split at h
    · rename_i hv
      split at h
      · rename_i l' hl
        simp only [Option.some.injEq] at h
        subst h
        obtain ⟨h1, h2⟩ := cstL_spec c n hl
        exact ⟨by simp [h1, cst1_conc], by simp [closedL, cst1_closed n hv, h2]⟩
      · cases h
    · cases h

theorem cst_spec (c : Con) (n : Nat) {v : Value} {u : TV} (h : cst v = some u) : u.conc c = v ∧ u.closed n = true := by
  unfold cst at h
  split at h
  · rename_i cs
    split at h
    · rename_i l hl
      simp only [Option.some.injEq] at h
      subst h
      obtain ⟨h1, h2⟩ := cstL_spec c n hl
      exact ⟨by simp [TV.conc, h1], h2⟩
    · cases h
  · cases h
  · rename_i h1 h2
    simp only [Option.some.injEq] at h
    subst h
    refine ⟨cst1_conc c v, cst1_closed n ?_⟩
    cases v with
    | agg cs => exact absurd rfl (h1 cs.toList)
    | tuple vs => exact absurd rfl (h2 vs)
    | _ => rfl

/-! ## The frame -/

theorem opv_sound {c : Con} {n : Nat} {e : Env} {a : Act} (h : Fits c n e a) {x : Operand} {v : TV} (hv : opv e x = some v) :
    a.eval x = v.conc c ∧ v.closed n = true := by
  cases x with
  | tmp t => exact h.get t v hv
  | const u =>
    simp only [opv] at hv
    obtain ⟨h1, h2⟩ := cst_spec c n hv
    exact ⟨h1.symm, h2⟩
  | global g =>
    simp only [opv, Option.some.injEq] at hv
    subst hv
    exact ⟨rfl, rfl⟩
  | func f =>
    simp only [opv, Option.some.injEq] at hv
    subst hv
    exact ⟨rfl, rfl⟩

theorem getOps_sound {c : Con} {n : Nat} {e : Env} {a : Act} (h : Fits c n e a) : ∀ {xs : List Operand} {vs : List TV}, getOps e xs = some vs →
    xs.map a.eval = vs.map (TV.conc c) ∧ ∀ v ∈ vs, v.closed n = true
  | [], vs, hv => by simp [getOps] at hv; subst hv; simp
  | x :: xs, vs, hv => by
    simp only [getOps] at hv
    split at hv
    · rename_i v hx
      split at hv
      · rename_i us hxs
        simp only [Option.some.injEq] at hv
        subst hv
        obtain ⟨e1, c1⟩ := opv_sound h hx
        obtain ⟨e2, c2⟩ := getOps_sound h hxs
        exact ⟨by simp [e1, e2], by simp [c1]; exact c2⟩
      · cases hv
    · cases hv

theorem opvP_sound {c : Con} {n : Nat} {e : Env} {a : Act} (h : Fits c n e a) : ∀ {xs : List (Nat × Operand)} {vs : List (Nat × TV)}, opvP e xs = some vs →
    xs.map (fun p => (p.1, a.eval p.2)) = vs.map (fun p => (p.1, p.2.conc c)) ∧ ∀ v ∈ vs, v.2.closed n = true
  | [], vs, hv => by simp [opvP] at hv; subst hv; simp
  | (i, x) :: xs, vs, hv => by
    simp only [opvP] at hv
    split at hv
    · rename_i v hx
      split at hv
      · rename_i us hxs
        simp only [Option.some.injEq] at hv
        subst hv
        obtain ⟨e1, c1⟩ := opv_sound h hx
        obtain ⟨e2, c2⟩ := opvP_sound h hxs
        exact ⟨by simp [e1, e2], by simp [c1]; exact fun a b hab => c2 (a, b) hab⟩
      · cases hv
    · cases hv

theorem Fits.put {c : Con} {n : Nat} {e : Env} {a : Act} (h : Fits c n e a) {d : Option Tmp} (hd : ∀ t, d = some t → t < a.tmps.size) {v : TV} (hv : v.closed n = true) :
    Fits c n (putE d v e) (a.put d (v.conc c)) := by
  cases d with
  | none => exact h
  | some t =>
    refine ⟨fun s u hu => ?_, h.defers⟩
    simp only [putE, Ev.get] at hu
    split at hu
    · rename_i hb
      have : t = s := Nat.eq_of_beq_eq_true hb
      subst this
      simp only [Option.some.injEq] at hu
      subst hu
      simp [Act.put, Array.getD, hd t rfl, hv]
    · rename_i hb
      have hne : t ≠ s := fun e => by subst e; simp at hb
      obtain ⟨e1, e2⟩ := h.get s u hu
      refine ⟨?_, e2⟩
      rw [← e1]
      simp [Act.put, Array.getElem?_setIfInBounds_ne hne]

theorem Fits.agree {c c' : Con} {n n' : Nat} {e : Env} {a : Act} (h : Fits c n e a) (hc : Agree n c c') (hn : n ≤ n') : Fits c' n' e a :=
  ⟨fun t v hv => ⟨by rw [(h.get t v hv).1, TV.conc_agree hc (h.get t v hv).2], TV.closed_mono hn (h.get t v hv).2⟩, h.defers⟩

end Go.Ev
