import Derived.Test.YtmappjgknpldpaaEv11
import Derived.ChangeKeysEq
import Derived.Laws.StructEq
namespace Go.Ev
section
variable {P : Program}

def rep (l : List (Option IntKind)) : Nat → List (Option IntKind)
  | 0 => []
  | n + 1 => l ++ rep l n

def structLeaves (P : Program) (lv : TypeId → Option (List (Option IntKind))) : List Field → Nat → Option (List (Option IntKind))
  | [], _ => some []
  | f :: fs, off => match Nat.beq f.offset off && (f.name != "_") && (P.info? f.type).isSome with
    | true => match lv f.type with
      | some l => match Nat.beq l.length (P.cellsOf f.type) with
        | true => match structLeaves P lv fs (off + l.length) with
          | some r => some (l ++ r)
          | none => none
        | false => none
      | none => none
    | false => none

/-- The kinds of a type's cells, where these are integers and bools alone. -/
def leaves (P : Program) : Nat → TypeId → Option (List (Option IntKind))
  | 0, _ => none
  | d + 1, t => match P.underlying t with
    | some (.int k) => some [some k]
    | some .bool => some [none]
    | some (.array n e) => match leaves P d e, (P.info? e).isSome with
      | some l, true => match Nat.beq l.length (P.cellsOf e) with
        | true => some (rep l n)
        | false => none
      | _, _ => none
    | some (.struct fs) => match P.stoodInHeld t with
      | true => none
      | false => structLeaves P (leaves P d) fs.toList 0
    | _ => none

def Kinded : List (Option IntKind) → List Value → Prop
  | [], [] => True
  | some k :: ks, .int k' _ :: vs => k' = k ∧ Kinded ks vs
  | none :: ks, .bool _ :: vs => Kinded ks vs
  | _, _ => False

def beqV : Value → Value → Bool
  | .int _ a, .int _ b => a == b
  | .bool a, .bool b => a == b
  | _, _ => false

def beqs : List Value → List Value → Bool
  | [], [] => true
  | x :: xs, y :: ys => beqV x y && beqs xs ys
  | _, _ => false

theorem Kinded.length : ∀ {ks : List (Option IntKind)} {vs : List Value}, Kinded ks vs → ks.length = vs.length
  | [], [], _ => rfl
  | some _ :: ks, .int _ _ :: vs, h => by simp [Kinded.length h.2]
  | none :: ks, .bool _ :: vs, h => by simp [Kinded.length (ks := ks) (vs := vs) h]

theorem Kinded.split : ∀ {ks ls : List (Option IntKind)} {vs : List Value}, Kinded (ks ++ ls) vs → ∃ v1 v2, vs = v1 ++ v2 ∧ Kinded ks v1 ∧ Kinded ls v2
  | [], ls, vs, h => ⟨[], vs, rfl, trivial, h⟩
  | some k :: ks, ls, .int k' n :: vs, h => by
    obtain ⟨v1, v2, rfl, h1, h2⟩ := Kinded.split (ks := ks) (ls := ls) h.2
    exact ⟨.int k' n :: v1, v2, rfl, ⟨h.1, h1⟩, h2⟩
  | none :: ks, ls, .bool b :: vs, h => by
    obtain ⟨v1, v2, rfl, h1, h2⟩ := Kinded.split (ks := ks) (ls := ls) (vs := vs) h
    exact ⟨.bool b :: v1, v2, rfl, h1, h2⟩

theorem beqs_append : ∀ {a b c d : List Value}, a.length = b.length → beqs (a ++ c) (b ++ d) = (beqs a b && beqs c d)
  | [], [], c, d, _ => by simp [beqs]
  | x :: a, y :: b, c, d, h => by simp [beqs, beqs_append (a := a) (b := b) (by simpa using h), Bool.and_assoc]

/-- A value of a type out of its cells. -/
def asV (P : Program) (t : TypeId) (vs : List Value) : Value :=
  match isAggB P t with
  | true => .agg vs.toArray
  | false => vs.headD undef

theorem run_part_asV {e : TypeId} {vs pre suf : List Value} (hu : (P.underlying e).isSome = true) (hi : (P.info? e).isSome = true) (hl : vs.length = P.cellsOf e) (h1 : isAggB P e = false → ∃ v, vs = [v]) (w : World) :
    (part e (pre ++ vs ++ suf).toArray pre.length).run P w = .ok (asV P e vs) w := by
  simp only [part, Sem.run_bind, r_isAgg hu, Result.andThen_ok]
  unfold asV
  cases hag : isAggB P e with
  | true =>
    simp only [if_true, Sem.run_bind, r_sizeOf hi, Result.andThen_ok, Sem.run_pure]
    rw [take_extract]
    congr 3
    rw [← hl]
    simp
  | false =>
    obtain ⟨v, rfl⟩ := h1 hag
    simp

theorem leaves_some {d : Nat} {t : TypeId} {ks : List (Option IntKind)} (h : leaves P d t = some ks) : (P.underlying t).isSome = true ∧ (isAggB P t = false → ks.length = 1) := by
  cases d with
  | zero => simp [leaves] at h
  | succ d =>
    unfold leaves at h
    cases hu : P.underlying t with
    | none => simp [hu] at h
    | some u =>
      refine ⟨rfl, fun hag => ?_⟩
      unfold isAggB at hag
      rw [hu] at h hag
      cases u <;> simp at h hag <;> (subst h; rfl)

theorem eq_items {e : TypeId} {d : Nat} {l : List (Option IntKind)} (hi : (P.info? e).isSome = true) (hu : (P.underlying e).isSome = true) (h1 : isAggB P e = false → l.length = 1) (hl : l.length = P.cellsOf e)
    (ih : ∀ (w : World) (xs ys : List Value), Kinded l xs → Kinded l ys → (Op.equalIn d e (asV P e xs) (asV P e ys)).run P w = .ok (beqs xs ys) w) :
    ∀ (n k : Nat) (px py xs ys : List Value) (w : World), px.length = k * P.cellsOf e → py.length = k * P.cellsOf e → Kinded (rep l n) xs → Kinded (rep l n) ys →
      (Op.eqItems d e (P.cellsOf e) (px ++ xs).toArray (py ++ ys).toArray (List.range' k n)).run P w = .ok (beqs xs ys) w
  | 0, k, px, py, xs, ys, w, _, _, hx, hy => by
    cases xs with
    | nil => cases ys with
      | nil => simp [Op.eqItems, beqs]
      | cons y ys => exact hy.elim
    | cons x xs => exact hx.elim
  | n + 1, k, px, py, xs, ys, w, hpx, hpy, hx, hy => by
    obtain ⟨x1, x2, rfl, hx1, hx2⟩ := Kinded.split hx
    obtain ⟨y1, y2, rfl, hy1, hy2⟩ := Kinded.split hy
    have one : ∀ {vs : List Value}, Kinded l vs → isAggB P e = false → ∃ v, vs = [v] := fun {vs} hv hag => by
      have := hv.length
      rw [h1 hag] at this
      exact List.length_eq_one_iff.1 this.symm
    have ex := run_part_asV (P := P) (pre := px) (suf := x2) hu hi (hx1.length.symm.trans hl) (one hx1) w
    have ey := run_part_asV (P := P) (pre := py) (suf := y2) hu hi (hy1.length.symm.trans hl) (one hy1) w
    rw [hpx] at ex
    rw [hpy] at ey
    have hrec := eq_items hi hu h1 hl ih n (k + 1) (px ++ x1) (py ++ y1) x2 y2 w (by simp [hpx, ← hx1.length, hl, Nat.add_mul]) (by simp [hpy, ← hy1.length, hl, Nat.add_mul]) hx2 hy2
    rw [List.range'_succ]
    simp only [Op.eqItems, Sem.run_bind, ← List.append_assoc, ex, ey, Result.andThen_ok, ih w x1 y1 hx1 hy1]
    rw [beqs_append (hx1.length.symm.trans hy1.length)]
    cases beqs x1 y1
    · simp
    · simpa using hrec

theorem eq_fields {d D : Nat} (ih : ∀ (t : TypeId) (ks : List (Option IntKind)), leaves P D t = some ks → ∀ (w : World) (xs ys : List Value), Kinded ks xs → Kinded ks ys → (Op.equalIn d t (asV P t xs) (asV P t ys)).run P w = .ok (beqs xs ys) w) :
    ∀ (fs : List Field) (off : Nat) (ks : List (Option IntKind)) (px py xs ys : List Value) (w : World), structLeaves P (leaves P D) fs off = some ks → px.length = off → py.length = off → Kinded ks xs → Kinded ks ys →
      (Op.eqFields d (px ++ xs).toArray (py ++ ys).toArray fs).run P w = .ok (beqs xs ys) w
  | [], off, ks, px, py, xs, ys, w, h, _, _, hx, hy => by
    simp [structLeaves] at h
    subst h
    cases xs with
    | nil => cases ys with
      | nil => simp [Op.eqFields, beqs]
      | cons y ys => exact hy.elim
    | cons x xs => exact hx.elim
  | f :: fs, off, ks, px, py, xs, ys, w, h, hpx, hpy, hx, hy => by
    simp only [structLeaves] at h
    split at h
    · rename_i hc
      simp only [Bool.and_eq_true] at hc
      obtain ⟨⟨hoff, hname⟩, hi⟩ := hc
      have hoff := Nat.eq_of_beq_eq_true hoff
      split at h
      · rename_i l hl
        split at h
        · rename_i hlen
          have hlen := Nat.eq_of_beq_eq_true hlen
          split at h
          · rename_i r hr
            simp only [Option.some.injEq] at h
            subst h
            obtain ⟨x1, x2, rfl, hx1, hx2⟩ := Kinded.split hx
            obtain ⟨y1, y2, rfl, hy1, hy2⟩ := Kinded.split hy
            obtain ⟨hu, h1⟩ := leaves_some hl
            have one : ∀ {vs : List Value}, Kinded l vs → isAggB P f.type = false → ∃ v, vs = [v] := fun {vs} hv hag => by
              have := hv.length
              rw [h1 hag] at this
              exact List.length_eq_one_iff.1 this.symm
            have ex := run_part_asV (P := P) (pre := px) (suf := x2) hu hi (hx1.length.symm.trans hlen) (one hx1) w
            have ey := run_part_asV (P := P) (pre := py) (suf := y2) hu hi (hy1.length.symm.trans hlen) (one hy1) w
            rw [hpx, ← hoff] at ex
            rw [hpy, ← hoff] at ey
            have hrec := eq_fields ih fs (off + l.length) r (px ++ x1) (py ++ y1) x2 y2 w hr (by simp [hpx, ← hx1.length]) (by simp [hpy, ← hy1.length]) hx2 hy2
            have hname' : f.name ≠ "_" := by simpa using hname
            simp only [Op.eqFields, hname', ne_eq, not_false_eq_true, if_true, Sem.run_bind, ← List.append_assoc, ex, ey, Result.andThen_ok, ih f.type l hl w x1 y1 hx1 hy1]
            rw [beqs_append (hx1.length.symm.trans hy1.length)]
            cases beqs x1 y1
            · simp
            · simpa using hrec
          · cases h
        · cases h
      · cases h
    · cases h

theorem eq_leaves : ∀ (D d : Nat) (t : TypeId) (ks : List (Option IntKind)), leaves P D t = some ks → ∀ (w : World) (xs ys : List Value), Kinded ks xs → Kinded ks ys →
    (Op.equalIn (d + D) t (asV P t xs) (asV P t ys)).run P w = .ok (beqs xs ys) w
  | 0, d, t, ks, h, _, _, _, _, _ => by simp [leaves] at h
  | D + 1, d, t, ks, h, w, xs, ys, hx, hy => by
    have ih := eq_leaves D d
    unfold leaves at h
    split at h
    · rename_i k hu
      simp only [Option.some.injEq] at h
      subst h
      have hag : isAggB P t = false := by simp [isAggB, hu]
      match xs, ys, hx, hy with
      | [.int k' a], [.int k'' b], hx, hy =>
        obtain ⟨rfl, _⟩ := hx
        obtain ⟨rfl, _⟩ := hy
        simp only [asV, hag, List.headD_cons]
        rw [← Nat.add_assoc, run_equalIn_int w _ t _ _ a b hu]
        simp [beqs, beqV]
    · rename_i hu
      simp only [Option.some.injEq] at h
      subst h
      have hag : isAggB P t = false := by simp [isAggB, hu]
      match xs, ys, hx, hy with
      | [.bool a], [.bool b], hx, hy =>
        simp only [asV, hag, List.headD_cons]
        rw [← Nat.add_assoc, run_equalIn_bool w _ t a b hu]
        simp [beqs, beqV]
    · rename_i n e hu
      have hag : isAggB P t = true := by simp [isAggB, hu]
      split at h
      · rename_i l hl hi
        split at h
        · rename_i hlen
          have hlen := Nat.eq_of_beq_eq_true hlen
          simp only [Option.some.injEq] at h
          subst h
          obtain ⟨hue, h1⟩ := leaves_some hl
          obtain ⟨i, hi'⟩ := Option.isSome_iff_exists.1 hi
          simp only [asV, hag]
          rw [← Nat.add_assoc, run_equalIn_array w _ _ _ hu hi', List.range_eq_range']
          exact eq_items (d := d + D) hi hue h1 hlen (fun w xs ys hx hy => ih e l hl w xs ys hx hy) n 0 [] [] xs ys w (by simp) (by simp) hx hy
        · cases h
      · cases h
    · rename_i fs hu
      have hag : isAggB P t = true := by simp [isAggB, hu]
      split at h
      · cases h
      · rename_i hst
        simp only [asV, hag]
        have hf : P.fieldsOf t = fs := by simp [Program.fieldsOf, hu]
        rw [← Nat.add_assoc, run_equalIn_struct w _ t _ _ (by rw [hf]; exact hu) hst, hf]
        exact eq_fields (d := d + D) (D := D) (fun t ks ht w xs ys hx hy => ih t ks ht w xs ys hx hy) fs.toList 0 ks [] [] xs ys w h rfl rfl hx hy
    · cases h

def kindOf : Sc → Option (Option IntKind)
  | .int k _ => some (some k)
  | .bool _ => some none
  | _ => none

theorem eqCells_spec (c : Con) : ∀ {z xs ys : List Sc} {b : Bool}, eqCells z xs ys = some b → ∃ ks, z.map kindOf = ks.map some ∧ Kinded ks (xs.map (Sc.conc c)) ∧ Kinded ks (ys.map (Sc.conc c)) ∧ beqs (xs.map (Sc.conc c)) (ys.map (Sc.conc c)) = b
  | [], [], [], b, h => by simp [eqCells] at h; subst h; exact ⟨[], rfl, trivial, trivial, rfl⟩
  | .int k _ :: z, .int k' x :: xs, .int k'' y :: ys, b, h => by
    simp only [eqCells] at h
    split at h
    · rename_i h1 h2
      have h1 := kEq_iff.1 h1
      have h2 := kEq_iff.1 h2
      subst h1; subst h2
      split at h
      · rename_i r hr
        simp only [Option.some.injEq] at h
        subst h
        obtain ⟨ks, e1, e2, e3, e4⟩ := eqCells_spec c hr
        exact ⟨some _ :: ks, by simp [kindOf, e1], ⟨rfl, e2⟩, ⟨rfl, e3⟩, by simp [beqs, beqV, Sc.conc, e4]⟩
      · cases h
    · cases h
  | .bool _ :: z, .bool x :: xs, .bool y :: ys, b, h => by
    simp only [eqCells] at h
    split at h
    · rename_i r hr
      simp only [Option.some.injEq] at h
      subst h
      obtain ⟨ks, e1, e2, e3, e4⟩ := eqCells_spec c hr
      exact ⟨none :: ks, by simp [kindOf, e1], e2, e3, by simp [beqs, beqV, Sc.conc, e4]⟩
    · cases h

theorem map_some_inj {α : Type} : ∀ {a b : List α}, a.map some = b.map some → a = b
  | [], [], _ => rfl
  | x :: a, y :: b, h => by
    simp only [List.map_cons, List.cons.injEq, Option.some.injEq] at h
    rw [h.1, map_some_inj h.2]

theorem eqRow_of {t : TypeId} {z : List Sc} {ks : List (Option IntKind)} {D : Nat} (hD : D ≤ 10000) (hl : leaves P D t = some ks) (hz : z.map kindOf = ks.map some) (hg : P.eqGuardType P.depth t = false) (hag : isAggB P t = true) : EqRow P t z := by
  refine ⟨hg, fun xs ys b c w h => ?_⟩
  obtain ⟨ks', e1, e2, e3, e4⟩ := eqCells_spec c h
  have : ks' = ks := map_some_inj (e1.symm.trans hz)
  subst this
  have := eq_leaves D (10000 - D) t _ hl w _ _ e2 e3
  rw [Nat.sub_add_cancel hD] at this
  simp only [asV, hag] at this
  rw [e4] at this
  exact this

end
end Go.Ev
