import Derived.Test.YthmdbgdagnhheaaDoorLaw
import Derived.Test.YthmdbgdagnhheaaDoorCu3
import Derived.Test.YthmdbgdagnhheaaDoorByM
namespace Go.Hv
open Go.Ev

section
variable {H : Type} {enc : TypeId × Value → H} {P : Program} {W0 : World} {base : Nat} {sp : Nat → Bool} {held : Bool} {fuel : Nat} {t e : TypeId} {cs : List Value} {x : DataW H × List MemPlace}

theorem cl_u64 (ht : P.underlying t = some (.int .u64)) (h : DataW.trod enc P W0 base sp held fuel t cs = some x) : ∃ z, InU z ∧ cs = [(u z).conc Con0] ∧ x.2 = [] := by
 obtain ⟨z, rfl, rfl, hw⟩ := DataW.trod_int ht h
 exact ⟨z, wf_u64 hw, rfl, rfl⟩

theorem cl_bool (ht : P.underlying t = some .bool) (h : DataW.trod enc P W0 base sp held fuel t cs = some x) : ∃ b, cs = [(Sc.bool b).conc Con0] ∧ x.2 = [] := by
 obtain ⟨b, rfl, rfl⟩ := DataW.trod_bool ht h
 exact ⟨b, rfl, rfl⟩

theorem flat_nil {α β : Type} {l : List α} {f : α → List β} (h : ∀ (i : Nat) x, l[i]? = some x → f x = []) : l.flatMap f = [] := by
 rw [List.flatMap_eq_nil_iff]
 intro x hx
 obtain ⟨i, hi, rfl⟩ := List.getElem_of_mem hx
 exact h i _ (List.getElem?_eq_getElem hi)

theorem cl_w (ht : P.underlying t = some (.array 4 e)) (he : P.underlying e = some (.int .u64)) (hce : P.cellsOf e = 1) (hct : P.cellsOf t = 4) (h : DataW.trod enc P W0 base sp held fuel t cs = some x) :
  ∃ z, InW z ∧ cs = (words z).map (Sc.conc Con0) ∧ x.2 = [] := by
 obtain ⟨xs, m, _, rfl, hl, hxs, hel⟩ := DataW.trod_array ht h
 rw [hct] at hl
 rw [hce] at hel
 match cs, hl with
 | [a0, a1, a2, a3], _ =>
  match xs, hxs with
  | [x0, x1, x2, x3], _ =>
   obtain ⟨z0, i0, e0, f0⟩ := cl_u64 he (hel 0 (by omega))
   obtain ⟨z1, i1, e1, f1⟩ := cl_u64 he (hel 1 (by omega))
   obtain ⟨z2, i2, e2, f2⟩ := cl_u64 he (hel 2 (by omega))
   obtain ⟨z3, i3, e3, f3⟩ := cl_u64 he (hel 3 (by omega))
   simp only [Nat.mul_one, List.drop_zero, List.drop_succ_cons, List.take_succ_cons, List.take_zero, List.cons.injEq, and_true] at e0 e1 e2 e3
   refine ⟨val z0 z1 z2 z3, ⟨by unfold val; omega, by unfold val; omega⟩, ?_, ?_⟩
   ·rw [words_val i0 i1 i2 i3, e0, e1, e2, e3]; rfl
   ·simp [f0, f1, f2, f3]

theorem cl_pt {fs : Array Field} {tf tb : TypeId} (ht : P.underlying t = some (.struct fs)) (hfs : fs.toList.map (fun f => (f.type, f.offset)) = [(tf, 0), (tf, 4), (tb, 8)]) (hf : P.underlying tf = some (.array 4 e)) (he : P.underlying e = some (.int .u64))
  (hb : P.underlying tb = some .bool) (hce : P.cellsOf e = 1) (hcf : P.cellsOf tf = 4) (hcb : P.cellsOf tb = 1) (hct : P.cellsOf t = 9) (h : DataW.trod enc P W0 base sp held fuel t cs = some x) :
  ∃ a c b, InW a ∧ InW c ∧ cs = (ptC a c b).map (Sc.conc Con0) ∧ x.2 = [] := by
 obtain ⟨xs, m, _, rfl, hl, hxs, hel⟩ := DataW.trod_struct ht h
 rw [hct] at hl
 obtain ⟨fs⟩ := fs
 have h3 : fs.length = 3 := by have := congrArg List.length hfs; simpa using this
 match fs, h3 with
 | [f0, f1, f2], _ =>
  simp only [List.map_cons, List.map_nil, List.cons.injEq, Prod.mk.injEq, and_true] at hfs
  obtain ⟨⟨a0, b0⟩, ⟨a1, b1⟩, ⟨a2, b2⟩⟩ := hfs
  match xs, hxs with
  | [x0, x1, x2], _ =>
   have g0 := hel 0 f0 rfl
   have g1 := hel 1 f1 rfl
   have g2 := hel 2 f2 rfl
   rw [a0, b0, hcf] at g0
   rw [a1, b1, hcf] at g1
   rw [a2, b2, hcb] at g2
   obtain ⟨z0, i0, e0, q0⟩ := cl_w hf he hce hcf g0
   obtain ⟨z1, i1, e1, q1⟩ := cl_w hf he hce hcf g1
   obtain ⟨z2, e2, q2⟩ := cl_bool hb g2
   refine ⟨z0, z1, z2, i0, i1, ?_, ?_⟩
   ·unfold ptC
    rw [List.map_append, List.map_append, ← e0, ← e1]
    have h8 : List.map (Sc.conc Con0) [Sc.bool z2] = List.take 1 (List.drop 8 cs) := by rw [e2]; rfl
    rw [h8]
    match cs, hl with
    | [c0, c1, c2, c3, c4, c5, c6, c7, c8], _ => rfl
   ·simp [q0, q1, q2]

theorem open_pt {fs : Array Field} {tf tb : TypeId} {base' : Nat} {v : Value} {d : DataW H} {p : List MemPlace} (ht : P.underlying t = some (.struct fs)) (hfs : fs.toList.map (fun f => (f.type, f.offset)) = [(tf, 0), (tf, 4), (tb, 8)]) (hf : P.underlying tf = some (.array 4 e)) (he : P.underlying e = some (.int .u64))
  (hb : P.underlying tb = some .bool) (hce : P.cellsOf e = 1) (hcf : P.cellsOf tf = 4) (hcb : P.cellsOf tb = 1) (hct : P.cellsOf t = 9) (hok : Value.okWide P W0 .any base' t v) (h : DataW.Trod enc P W0 base sp held t v d p) :
  ∃ a c b, InW a ∧ InW c ∧ v = (ptV a c b).conc Con0 ∧ p = [] := by
 obtain ⟨cs, rfl, hcs⟩ : ∃ cs, v = .agg cs ∧ cs.size = P.cellsOf t := by
  simp only [Value.okWide, ht] at hok
  obtain ⟨cs, h1, h2, _⟩ := hok
  exact ⟨cs, h1, h2⟩
 obtain ⟨fuel, hfl⟩ := h
 obtain ⟨a, c, b, i1, i2, e1, e2⟩ := cl_pt ht hfs hf he hb hce hcf hcb hct hfl
 refine ⟨a, c, b, i1, i2, ?_, e2⟩
 simp only [Value.cells] at e1
 simp only [ptV, TV.conc, ← e1]

theorem open_pt2 {fs : Array Field} {t2 tf tb : TypeId} {base' : Nat} {v : Value} {d : DataW H} {p : List MemPlace} (ht2 : P.underlying t2 = some (.array 2 t)) (ht : P.underlying t = some (.struct fs)) (hfs : fs.toList.map (fun f => (f.type, f.offset)) = [(tf, 0), (tf, 4), (tb, 8)]) (hf : P.underlying tf = some (.array 4 e)) (he : P.underlying e = some (.int .u64))
  (hb : P.underlying tb = some .bool) (hce : P.cellsOf e = 1) (hcf : P.cellsOf tf = 4) (hcb : P.cellsOf tb = 1) (hct : P.cellsOf t = 9) (hct2 : P.cellsOf t2 = 18) (hok : Value.okWide P W0 .any base' t2 v) (h : DataW.Trod enc P W0 base sp held t2 v d p) :
  ∃ a c b a' c' b', (InW a ∧ InW c) ∧ (InW a' ∧ InW c') ∧ v = (TV.agg (ptC a c b ++ ptC a' c' b')).conc Con0 ∧ p = [] := by
 obtain ⟨cs, rfl, hcs⟩ : ∃ cs, v = .agg cs ∧ cs.size = P.cellsOf t2 := by
  simp only [Value.okWide, ht2] at hok
  obtain ⟨cs, h1, h2, _⟩ := hok
  exact ⟨cs, h1, h2⟩
 obtain ⟨fuel, hfl⟩ := h
 obtain ⟨xs, m, _, ex, hl, hxs, hel⟩ := DataW.trod_array ht2 hfl
 simp only [Prod.mk.injEq] at ex
 obtain ⟨rfl, rfl⟩ := ex
 rw [hct2] at hl
 rw [hct] at hel
 match xs, hxs with
 | [x0, x1], _ =>
  obtain ⟨a, c, b, i1, i2, e1, q1⟩ := cl_pt ht hfs hf he hb hce hcf hcb hct (hel 0 (by omega))
  obtain ⟨a', c', b', i1', i2', e1', q1'⟩ := cl_pt ht hfs hf he hb hce hcf hcb hct (hel 1 (by omega))
  refine ⟨a, c, b, a', c', b', ⟨i1, i2⟩, ⟨i1', i2'⟩, ?_, by simp [q1, q1']⟩
  simp only [Value.cells] at e1 e1' hl
  simp only [TV.conc, List.map_append, ← e1, ← e1']
  congr 1
  have h2 : cs.toList = List.take 9 (List.drop (0 * 9) cs.toList) ++ List.take 9 (List.drop (1 * 9) cs.toList) := by
   have hlen : cs.toList.length = 18 := hl
   rw [Nat.zero_mul, Nat.one_mul, List.drop_zero]
   conv => lhs; rw [← List.take_append_drop 9 cs.toList]
   congr 1
   rw [List.take_of_length_le (by rw [List.length_drop, hlen]; omega)]
  rw [← h2]

end
end Go.Hv

namespace Go.Hv
open Go.Ev

section
variable {H : Type} {enc : TypeId × Value → H} {P : Program} {W0 : World} {base : Nat} {sp : Nat → Bool} {held : Bool} {fuel : Nat} {t e : TypeId} {cs : List Value} {x : DataW H × List MemPlace}

theorem cl_arr {n : Nat} {k : IntKind} (ht : P.underlying t = some (.array n e)) (he : P.underlying e = some (.int k)) (hce : P.cellsOf e = 1) (hct : P.cellsOf t = n) (h : DataW.trod enc P W0 base sp held fuel t cs = some x) :
  ∃ l : List Int, cs = l.map (Value.int k) ∧ l.length = n ∧ (∀ x ∈ l, (Lit.int k x).wf = true) ∧ x.2 = [] := by
 obtain ⟨xs, m, _, rfl, hcl, hlen, hel⟩ := DataW.trod_array ht h
 rw [hct] at hcl
 have one : ∀ i, i < n → ∃ z, cs[i]? = some (.int k z) ∧ (Lit.int k z).wf = true ∧ (xs[i]?.map (·.2)) = some [] := fun i hi => by
  have h1 := hel i hi
  rw [hce, Nat.mul_one, List.getElem?_eq_getElem (by omega)] at h1
  obtain ⟨z, e1, e2, e3⟩ := DataW.trod_int he h1
  refine ⟨z, ?_, e3, ?_⟩
  ·have h0 : ((cs.drop i).take 1)[0]? = some (.int k z) := by rw [e1]; rfl
   simpa using h0
  ·rw [List.getElem?_eq_getElem (by omega), e2]; rfl
 have hval : ∃ l : List Int, cs = l.map (Value.int k) ∧ ∀ x ∈ l, (Lit.int k x).wf = true := by
  have : ∀ (l : List Value), (∀ v ∈ l, ∃ z, v = .int k z ∧ (Lit.int k z).wf = true) → ∃ r : List Int, l = r.map (Value.int k) ∧ ∀ x ∈ r, (Lit.int k x).wf = true := by
   intro l
   induction l with
   | nil => intro _; exact ⟨[], rfl, by simp⟩
   | cons v l ih =>
    intro hl
    obtain ⟨z, rfl, hz⟩ := hl v (by simp)
    obtain ⟨r, rfl, hr⟩ := ih (fun u hu => hl u (by simp [hu]))
    exact ⟨z :: r, rfl, by simp [hz]; exact hr⟩
  refine this _ fun v hv => ?_
  obtain ⟨i, hi, rfl⟩ := List.getElem_of_mem hv
  obtain ⟨z, h1, h2, _⟩ := one i (by omega)
  rw [List.getElem?_eq_getElem hi] at h1
  exact ⟨z, by simpa using h1, h2⟩
 obtain ⟨l, hl, hwf⟩ := hval
 refine ⟨l, hl, ?_, hwf, ?_⟩
 ·have := congrArg List.length hl
  rw [hcl] at this
  simpa using this.symm
 ·rw [List.flatMap_eq_nil_iff]
  intro x hx
  obtain ⟨i, hi, rfl⟩ := List.getElem_of_mem hx
  obtain ⟨_, _, _, h3⟩ := one i (by omega)
  rw [List.getElem?_eq_getElem hi] at h3
  simpa using h3

def opC (D : List Int) (v s r : Int) : List Sc := D.map (Sc.int .u8) ++ ([u v] ++ (words s ++ words r))

theorem open_op {fs : Array Field} {tD tb tU tS : TypeId} {base' : Nat} {v : Value} {d : DataW H} {p : List MemPlace} (ht : P.underlying t = some (.struct fs)) (hfs : fs.toList.map (fun f => (f.type, f.offset)) = [(tD, 0), (tU, 32), (tS, 33), (tS, 37)])
  (hD : P.underlying tD = some (.array 32 tb)) (hb : P.underlying tb = some (.int .u8)) (hcb : P.cellsOf tb = 1) (hcD : P.cellsOf tD = 32) (hU : P.underlying tU = some (.int .u64)) (hcU : P.cellsOf tU = 1)
  (hS : P.underlying tS = some (.array 4 tU)) (hcS : P.cellsOf tS = 4) (hct : P.cellsOf t = 41) (hok : Value.okWide P W0 .any base' t v) (h : DataW.Trod enc P W0 base sp held t v d p) :
  ∃ D w s r, D.length = 32 ∧ (∀ z ∈ D, 0 ≤ z ∧ z < 256) ∧ InU w ∧ InW s ∧ InW r ∧ v = (TV.agg (opC D w s r)).conc Con0 ∧ p = [] := by
 obtain ⟨cs, rfl, hcs⟩ : ∃ cs, v = .agg cs ∧ cs.size = P.cellsOf t := by
  simp only [Value.okWide, ht] at hok
  obtain ⟨cs, h1, h2, _⟩ := hok
  exact ⟨cs, h1, h2⟩
 obtain ⟨fuel, hfl⟩ := h
 obtain ⟨xs, m, _, ex, hl, hxs, hel⟩ := DataW.trod_struct ht hfl
 simp only [Prod.mk.injEq] at ex
 obtain ⟨rfl, rfl⟩ := ex
 rw [hct] at hl
 obtain ⟨fs⟩ := fs
 have h4 : fs.length = 4 := by have := congrArg List.length hfs; simpa using this
 match fs, h4 with
 | [f0, f1, f2, f3], _ =>
  simp only [List.map_cons, List.map_nil, List.cons.injEq, Prod.mk.injEq, and_true] at hfs
  obtain ⟨⟨a0, b0⟩, ⟨a1, b1⟩, ⟨a2, b2⟩, ⟨a3, b3⟩⟩ := hfs
  match xs, hxs with
  | [x0, x1, x2, x3], _ =>
   have g0 := hel 0 f0 rfl
   have g1 := hel 1 f1 rfl
   have g2 := hel 2 f2 rfl
   have g3 := hel 3 f3 rfl
   rw [a0, b0, hcD] at g0
   rw [a1, b1, hcU] at g1
   rw [a2, b2, hcS] at g2
   rw [a3, b3, hcS] at g3
   obtain ⟨D, e0, l0, w0, q0⟩ := cl_arr hD hb hcb hcD g0
   obtain ⟨z1, i1, e1, q1⟩ := cl_u64 hU g1
   obtain ⟨z2, i2, e2, q2⟩ := cl_w hS hU hcU hcS g2
   obtain ⟨z3, i3, e3, q3⟩ := cl_w hS hU hcU hcS g3
   refine ⟨D, z1, z2, z3, l0, fun z hz => wf_u8' (w0 z hz), i1, i2, i3, ?_, by simp [q0, q1, q2, q3]⟩
   simp only [Value.cells] at e0 e1 e2 e3 hl
   simp only [opC, TV.conc, List.map_append, List.map_map]
   have eD : D.map (Sc.conc Con0 ∘ Sc.int .u8) = D.map (Value.int .u8) := rfl
   have eu : List.map (Sc.conc Con0) [u z1] = [(u z1).conc Con0] := rfl
   rw [eD, ← e0, eu, ← e1, ← e2, ← e3]
   congr 1
   have hlen : cs.toList.length = 41 := hl
   have h2 : cs.toList = List.take 32 (List.drop 0 cs.toList) ++ (List.take 1 (List.drop 32 cs.toList) ++ (List.take 4 (List.drop 33 cs.toList) ++ List.take 4 (List.drop 37 cs.toList))) := by
    rw [List.drop_zero]
    conv => lhs; rw [← List.take_append_drop 32 cs.toList]
    congr 1
    conv => lhs; rw [← List.take_append_drop 1 (List.drop 32 cs.toList), List.drop_drop]
    congr 1
    conv => lhs; rw [← List.take_append_drop 4 (List.drop (32 + 1) cs.toList), List.drop_drop]
    congr 1
    rw [List.take_of_length_le (by rw [List.length_drop, hlen]; exact Nat.le_refl 4)]
   rw [← h2]

def tagC (l : Bool) (D : List Int) (x y : Int) (b : Bool) : List Sc := [.bool l] ++ (D.map (Sc.int .u8) ++ ptC x y b)

def amtC (l : Bool) (w x y : Int) (b : Bool) : List Sc := [.bool l] ++ ([u w] ++ ptC x y b)

theorem open_tag {fs fp : Array Field} {tB tD tb tP tf tb2 : TypeId} {base' : Nat} {v : Value} {d : DataW H} {p : List MemPlace} (ht : P.underlying t = some (.struct fs)) (hfs : fs.toList.map (fun f => (f.type, f.offset)) = [(tB, 0), (tD, 1), (tP, 33)])
  (hB : P.underlying tB = some .bool) (hcB : P.cellsOf tB = 1) (hD : P.underlying tD = some (.array 32 tb)) (hb : P.underlying tb = some (.int .u8)) (hcb : P.cellsOf tb = 1) (hcD : P.cellsOf tD = 32)
  (hP : P.underlying tP = some (.struct fp)) (hfp : fp.toList.map (fun f => (f.type, f.offset)) = [(tf, 0), (tf, 4), (tb2, 8)]) (hf : P.underlying tf = some (.array 4 e)) (he : P.underlying e = some (.int .u64))
  (hb2 : P.underlying tb2 = some .bool) (hce : P.cellsOf e = 1) (hcf : P.cellsOf tf = 4) (hcb2 : P.cellsOf tb2 = 1) (hcP : P.cellsOf tP = 9) (hct : P.cellsOf t = 42) (hok : Value.okWide P W0 .any base' t v) (h : DataW.Trod enc P W0 base sp held t v d p) :
  ∃ l D x y b, D.length = 32 ∧ (∀ z ∈ D, 0 ≤ z ∧ z < 256) ∧ InW x ∧ InW y ∧ v = (TV.agg (tagC l D x y b)).conc Con0 ∧ p = [] := by
 obtain ⟨cs, rfl, hcs⟩ : ∃ cs, v = .agg cs ∧ cs.size = P.cellsOf t := by
  simp only [Value.okWide, ht] at hok
  obtain ⟨cs, h1, h2, _⟩ := hok
  exact ⟨cs, h1, h2⟩
 obtain ⟨fuel, hfl⟩ := h
 obtain ⟨xs, m, _, ex, hl, hxs, hel⟩ := DataW.trod_struct ht hfl
 simp only [Prod.mk.injEq] at ex
 obtain ⟨rfl, rfl⟩ := ex
 rw [hct] at hl
 obtain ⟨fs⟩ := fs
 have h4 : fs.length = 3 := by have := congrArg List.length hfs; simpa using this
 match fs, h4 with
 | [f0, f1, f2], _ =>
  simp only [List.map_cons, List.map_nil, List.cons.injEq, Prod.mk.injEq, and_true] at hfs
  obtain ⟨⟨a0, b0⟩, ⟨a1, b1⟩, ⟨a2, b2⟩⟩ := hfs
  match xs, hxs with
  | [x0, x1, x2], _ =>
   have g0 := hel 0 f0 rfl
   have g1 := hel 1 f1 rfl
   have g2 := hel 2 f2 rfl
   rw [a0, b0, hcB] at g0
   rw [a1, b1, hcD] at g1
   rw [a2, b2, hcP] at g2
   obtain ⟨l, e0, q0⟩ := cl_bool hB g0
   obtain ⟨D, e1, l1, w1, q1⟩ := cl_arr hD hb hcb hcD g1
   obtain ⟨z1, z2, z3, i1, i2, e2, q2⟩ := cl_pt hP hfp hf he hb2 hce hcf hcb2 hcP g2
   refine ⟨l, D, z1, z2, z3, l1, fun z hz => wf_u8' (w1 z hz), i1, i2, ?_, by simp [q0, q1, q2]⟩
   simp only [Value.cells] at e0 e1 e2 hl
   simp only [tagC, TV.conc, List.map_append, List.map_map]
   have eD : D.map (Sc.conc Con0 ∘ Sc.int .u8) = D.map (Value.int .u8) := rfl
   have el : List.map (Sc.conc Con0) [Sc.bool l] = [(Sc.bool l).conc Con0] := rfl
   rw [eD, ← e1, el, ← e0, ← e2]
   congr 1
   have hlen : cs.toList.length = 42 := hl
   have h2 : cs.toList = List.take 1 (List.drop 0 cs.toList) ++ (List.take 32 (List.drop 1 cs.toList) ++ List.take 9 (List.drop 33 cs.toList)) := by
    rw [List.drop_zero]
    conv => lhs; rw [← List.take_append_drop 1 cs.toList]
    congr 1
    conv => lhs; rw [← List.take_append_drop 32 (List.drop 1 cs.toList), List.drop_drop]
    congr 1
    rw [List.take_of_length_le (by rw [List.length_drop, hlen]; exact Nat.le_refl 9)]
   rw [← h2]

theorem open_amt {fs fp : Array Field} {tB tU tP tf tb2 : TypeId} {base' : Nat} {v : Value} {d : DataW H} {p : List MemPlace} (ht : P.underlying t = some (.struct fs)) (hfs : fs.toList.map (fun f => (f.type, f.offset)) = [(tB, 0), (tU, 1), (tP, 2)])
  (hB : P.underlying tB = some .bool) (hcB : P.cellsOf tB = 1) (hU : P.underlying tU = some (.int .u64)) (hcU : P.cellsOf tU = 1)
  (hP : P.underlying tP = some (.struct fp)) (hfp : fp.toList.map (fun f => (f.type, f.offset)) = [(tf, 0), (tf, 4), (tb2, 8)]) (hf : P.underlying tf = some (.array 4 e)) (he : P.underlying e = some (.int .u64))
  (hb2 : P.underlying tb2 = some .bool) (hce : P.cellsOf e = 1) (hcf : P.cellsOf tf = 4) (hcb2 : P.cellsOf tb2 = 1) (hcP : P.cellsOf tP = 9) (hct : P.cellsOf t = 11) (hok : Value.okWide P W0 .any base' t v) (h : DataW.Trod enc P W0 base sp held t v d p) :
  ∃ l w x y b, InU w ∧ InW x ∧ InW y ∧ v = (TV.agg (amtC l w x y b)).conc Con0 ∧ p = [] := by
 obtain ⟨cs, rfl, hcs⟩ : ∃ cs, v = .agg cs ∧ cs.size = P.cellsOf t := by
  simp only [Value.okWide, ht] at hok
  obtain ⟨cs, h1, h2, _⟩ := hok
  exact ⟨cs, h1, h2⟩
 obtain ⟨fuel, hfl⟩ := h
 obtain ⟨xs, m, _, ex, hl, hxs, hel⟩ := DataW.trod_struct ht hfl
 simp only [Prod.mk.injEq] at ex
 obtain ⟨rfl, rfl⟩ := ex
 rw [hct] at hl
 obtain ⟨fs⟩ := fs
 have h4 : fs.length = 3 := by have := congrArg List.length hfs; simpa using this
 match fs, h4 with
 | [f0, f1, f2], _ =>
  simp only [List.map_cons, List.map_nil, List.cons.injEq, Prod.mk.injEq, and_true] at hfs
  obtain ⟨⟨a0, b0⟩, ⟨a1, b1⟩, ⟨a2, b2⟩⟩ := hfs
  match xs, hxs with
  | [x0, x1, x2], _ =>
   have g0 := hel 0 f0 rfl
   have g1 := hel 1 f1 rfl
   have g2 := hel 2 f2 rfl
   rw [a0, b0, hcB] at g0
   rw [a1, b1, hcU] at g1
   rw [a2, b2, hcP] at g2
   obtain ⟨l, e0, q0⟩ := cl_bool hB g0
   obtain ⟨w, iw, e1, q1⟩ := cl_u64 hU g1
   obtain ⟨z1, z2, z3, i1, i2, e2, q2⟩ := cl_pt hP hfp hf he hb2 hce hcf hcb2 hcP g2
   refine ⟨l, w, z1, z2, z3, iw, i1, i2, ?_, by simp [q0, q1, q2]⟩
   simp only [Value.cells] at e0 e1 e2 hl
   simp only [amtC, TV.conc, List.map_append]
   have el : List.map (Sc.conc Con0) [Sc.bool l] = [(Sc.bool l).conc Con0] := rfl
   have eu : List.map (Sc.conc Con0) [u w] = [(u w).conc Con0] := rfl
   rw [el, ← e0, eu, ← e1, ← e2]
   congr 1
   have hlen : cs.toList.length = 11 := hl
   have h2 : cs.toList = List.take 1 (List.drop 0 cs.toList) ++ (List.take 1 (List.drop 1 cs.toList) ++ List.take 9 (List.drop 2 cs.toList)) := by
    rw [List.drop_zero]
    conv => lhs; rw [← List.take_append_drop 1 cs.toList]
    congr 1
    conv => lhs; rw [← List.take_append_drop 1 (List.drop 1 cs.toList), List.drop_drop]
    congr 1
    rw [List.take_of_length_le (by rw [List.length_drop, hlen]; exact Nat.le_refl 9)]
   rw [← h2]

end
end Go.Hv

namespace Go.Hv
open Go.Ev

section
variable {H : Type} {enc : TypeId × Value → H} {P : Program} {W0 : World} {base : Nat} {sp : Nat → Bool} {held : Bool} {t e : TypeId}

theorem open_bool {base' : Nat} {v : Value} {d : DataW H} {p : List MemPlace} (ht : P.underlying t = some .bool) (hok : Value.okWide P W0 .any base' t v) (h : DataW.Trod enc P W0 base sp held t v d p) :
  ∃ b, v = (TV.one (.bool b)).conc Con0 ∧ p = [] := by
 have hv : v.cells.toList = [v] := by
  cases v <;> first
   | rfl
   | (exfalso; simp [Value.okWide, ht, Cell.okWide, Cell.ok] at hok)
 obtain ⟨fuel, hf⟩ := h
 rw [hv] at hf
 obtain ⟨b, h1, h2⟩ := cl_bool ht hf
 simp only [List.cons.injEq, and_true] at h1
 exact ⟨b, h1, h2⟩

theorem open_u2 {base' : Nat} {v : Value} {d : DataW H} {p : List MemPlace} (ht : P.underlying t = some (.array 2 e)) (he : P.underlying e = some (.int .u64)) (hce : P.cellsOf e = 1) (hct : P.cellsOf t = 2) (hok : Value.okWide P W0 .any base' t v) (h : DataW.Trod enc P W0 base sp held t v d p) :
  ∃ a c, InU a ∧ InU c ∧ v = (TV.agg [u a, u c]).conc Con0 ∧ p = [] := by
 obtain ⟨cs, rfl, hcs⟩ : ∃ cs, v = .agg cs ∧ cs.size = P.cellsOf t := by
  simp only [Value.okWide, ht] at hok
  obtain ⟨cs, h1, h2, _⟩ := hok
  exact ⟨cs, h1, h2⟩
 obtain ⟨fuel, hfl⟩ := h
 obtain ⟨l, e1, e2, e3, e4⟩ := cl_arr ht he hce hct hfl
 match l, e2 with
 | [a, c], _ =>
  refine ⟨a, c, wf_u64 (e3 a (by simp)), wf_u64 (e3 c (by simp)), ?_, e4⟩
  simp only [Value.cells] at e1
  simp only [TV.conc]
  congr 1
  rw [show List.map (Sc.conc Con0) [u a, u c] = List.map (Value.int .u64) [a, c] from rfl, ← e1]

theorem open_w3 {e2 : TypeId} {base' : Nat} {v : Value} {d : DataW H} {p : List MemPlace} (ht : P.underlying t = some (.array 3 e)) (he : P.underlying e = some (.array 4 e2)) (he2 : P.underlying e2 = some (.int .u64)) (hce2 : P.cellsOf e2 = 1) (hce : P.cellsOf e = 4) (hct : P.cellsOf t = 12)
  (hok : Value.okWide P W0 .any base' t v) (h : DataW.Trod enc P W0 base sp held t v d p) :
  ∃ a b c, InW a ∧ InW b ∧ InW c ∧ v = (TV.agg (words a ++ (words b ++ words c))).conc Con0 ∧ p = [] := by
 obtain ⟨cs, rfl, hcs⟩ : ∃ cs, v = .agg cs ∧ cs.size = P.cellsOf t := by
  simp only [Value.okWide, ht] at hok
  obtain ⟨cs, h1, h2, _⟩ := hok
  exact ⟨cs, h1, h2⟩
 obtain ⟨fuel, hfl⟩ := h
 obtain ⟨xs, m, _, ex, hl, hxs, hel⟩ := DataW.trod_array ht hfl
 simp only [Prod.mk.injEq] at ex
 obtain ⟨rfl, rfl⟩ := ex
 rw [hct] at hl
 rw [hce] at hel
 match xs, hxs with
 | [x0, x1, x2], _ =>
  obtain ⟨z0, i0, e0, q0⟩ := cl_w he he2 hce2 hce (hel 0 (by omega))
  obtain ⟨z1, i1, e1, q1⟩ := cl_w he he2 hce2 hce (hel 1 (by omega))
  obtain ⟨z2, i2, e2, q2⟩ := cl_w he he2 hce2 hce (hel 2 (by omega))
  refine ⟨z0, z1, z2, i0, i1, i2, ?_, by simp [q0, q1, q2]⟩
  simp only [Value.cells] at e0 e1 e2 hl
  simp only [TV.conc, List.map_append]
  rw [← e0, ← e1, ← e2]
  congr 1
  have hlen : cs.toList.length = 12 := hl
  generalize hcl : cs.toList = l at *
  have : cs = l.toArray := by rw [← hcl]
  rw [this]
  congr 1
  match l, hlen with
  | [c0, c1, c2, c3, c4, c5, c6, c7, c8, c9, c10, c11], _ => rfl

theorem open_dg {base' : Nat} {v : Value} {d : DataW H} {p : List MemPlace} (ht : P.underlying t = some (.array 32 e)) (he : P.underlying e = some (.int .u8)) (hce : P.cellsOf e = 1) (hct : P.cellsOf t = 32) (hok : Value.okWide P W0 .any base' t v) (h : DataW.Trod enc P W0 base sp held t v d p) :
  ∃ D : List Int, D.length = 32 ∧ (∀ z ∈ D, 0 ≤ z ∧ z < 256) ∧ v = (TV.agg (D.map (Sc.int .u8))).conc Con0 ∧ p = [] := by
 obtain ⟨cs, rfl, hcs⟩ : ∃ cs, v = .agg cs ∧ cs.size = P.cellsOf t := by
  simp only [Value.okWide, ht] at hok
  obtain ⟨cs, h1, h2, _⟩ := hok
  exact ⟨cs, h1, h2⟩
 obtain ⟨fuel, hfl⟩ := h
 obtain ⟨D, e1, e2, e3, e4⟩ := cl_arr ht he hce hct hfl
 refine ⟨D, e2, fun z hz => wf_u8' (e3 z hz), ?_, e4⟩
 simp only [Value.cells] at e1
 simp only [TV.conc, List.map_map]
 congr 1
 rw [show D.map (Sc.conc Con0 ∘ Sc.int .u8) = D.map (Value.int .u8) from rfl, ← e1]

end
end Go.Hv
