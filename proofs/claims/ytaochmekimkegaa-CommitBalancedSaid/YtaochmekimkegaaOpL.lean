import Derived.Test.YtaochmekimkegaaOpW
import Derived.Test.YtaochmekimkegaaOpC
import Derived.Test.YtaochmekimkegaaSu1
import Derived.Test.YtaochmekimkegaaCm1
namespace Go.Hv
open Go.Ev Go.ChangeShapes Go.WideShapes Go.ChangeAt Go.RowKit

theorem open_sl {α : Type} {H : Type} {enc : TypeId × Value → H} {P : Program} {W : World} {base base' : Nat} {sp : Nat → Bool} {held : Bool} {t e : TypeId} {v : Value} {d : DataW H} {p : List MemPlace} (es : Nat) (I : α → Prop) (cells : α → List Sc)
  (hlen0 : ∀ z, (cells z).length = es) (hcl0 : ∀ z, closedL 0 (cells z) = true) (one : ∀ fuel cs y, DataW.trod enc P W base' sp held fuel e cs = some y → ∃ z, I z ∧ cs = (cells z).map (Sc.conc Con0))
  (ht : P.underlying t = some (.slice e)) (hce : P.cellsOf e = es) (hok : Value.okWide P W .any base t v) (h : DataW.Trod enc P W base' sp held t v d p)
  (by_ : Nat) (hby : 32 ≤ by_) (hsz : ∀ el spare, d = .slice el spare → (el.length + spare.length) * by_ ≤ reachBytes) :
  ∃ (q : Option SP) (cap : Nat) (l : List α), v = (TV.one (.slice q l.length cap)).conc Con0 ∧ (∀ x ∈ l, I x) ∧ Sl (fun r o => W.heap[r]? = some o) es (.one (.slice q l.length cap)) (l.map cells) ∧
   l.length ≤ 4398046510976 := by
 have hv : v.cells.toList = [v] := by
  cases v <;> first
   | rfl
   | (exfalso; simp [Value.okWide, ht, Cell.okWide, Cell.ok] at hok)
 obtain ⟨fuel, hf⟩ := h
 rw [hv] at hf
 rcases DataW.trod_slice ht hf with ⟨hcs, _⟩ | ⟨a, len, cap, elems, rest, n, _, hcs, hx, _, hl, hm, hlen, hel, _⟩
 ·obtain rfl : v = .slice none 0 0 := by simpa using hcs
  refine ⟨none, 0, [], rfl, fun x hx => (by cases hx), ⟨none, 0, rfl, ⟨Nat.le_refl _, by simp⟩, fun x hx => (by cases hx), rfl, rfl⟩, by simp⟩
 ·obtain rfl : v = .slice (some a) len cap := by simpa using hcs
  have hd : d = .slice (elems.map (·.1)) (rest.map (·.1)) := (Prod.mk.inj hx).1
  have each : ∀ i, i < len → ∃ z : α, I z ∧ ∀ j s, (cells z)[j]? = some s → W.cell? ((a.add (i * es)).add j) = some (s.conc Con0) := fun i hi => by
   have h1 := hel i hi
   rw [hce, List.getElem?_eq_getElem (by omega), Option.bind_eq_some_iff] at h1
   obtain ⟨cs, h2, h3⟩ := h1
   obtain ⟨z, hz, rfl⟩ := one _ _ _ h3
   refine ⟨z, hz, fun j s hj => ?_⟩
   unfold World.cells? at h2
   split at h2
   ·have hj4 : j < es := by have := (List.getElem?_eq_some_iff.1 hj).1; rwa [hlen0] at this
    have := mapM_some_get h2 j j (by simp [hj4])
    rw [this, List.getElem?_map, hj]
    rfl
   ·cases h2
  have all : ∀ n, n ≤ len → ∃ l : List α, l.length = n ∧ (∀ x ∈ l, I x) ∧ ∀ i x j s, l[i]? = some x → (cells x)[j]? = some s → W.cell? ((a.add (i * es)).add j) = some (s.conc Con0) := fun n => by
   induction n with
   | zero => exact fun _ => ⟨[], rfl, fun x hx => (by cases hx), fun i x j s hi => (by simp at hi)⟩
   | succ n ih =>
    intro hn
    obtain ⟨l, h1, h2, h3⟩ := ih (by omega)
    obtain ⟨z, hz, hc⟩ := each n (by omega)
    refine ⟨l ++ [z], by simp [h1], fun x hx => ?_, fun i x j s hi hj => ?_⟩
    ·simp only [List.mem_append, List.mem_singleton] at hx
     rcases hx with hx | rfl
     ·exact h2 x hx
     ·exact hz
    ·rcases Nat.lt_or_ge i l.length with hlt | hge
     ·rw [List.getElem?_append_left hlt] at hi
      exact h3 i x j s hi hj
     ·rw [List.getElem?_append_right hge] at hi
      have hi0 : i - l.length = 0 := by
       have := (List.getElem?_eq_some_iff.1 hi).1
       simp at this
       omega
      rw [hi0] at hi
      simp only [List.getElem?_cons_zero, Option.some.injEq] at hi
      subst hi
      obtain rfl : i = n := by omega
      exact hc j s hj
  obtain ⟨l, hll, hin, hcell⟩ := all len (Nat.le_refl _)
  subst hll
  have hsp : a.spot = none := by
   simp only [Value.okWide, ht, Cell.okWide, Cell.ok] at hok
   exact hok.2.2.2.1
  have hmax : l.length ≤ 4398046510976 := by
   have h0 := hsz _ _ hd
   rw [List.length_map, hlen] at h0
   have h1 : l.length * 32 ≤ (l.length + (rest.map (·.1)).length) * by_ := Nat.mul_le_mul (Nat.le_add_right _ _) hby
   unfold reachBytes at h0
   omega
  refine ⟨some (.ext a), cap, l, rfl, hin, ⟨some (.ext a), cap, by rw [List.length_map], ⟨by rw [List.length_map]; omega, by rw [List.length_map]; omega⟩, fun x hx => ?_, hsp, fun i x j s hi hj => ?_⟩, hmax⟩
  ·obtain ⟨z, _, rfl⟩ := List.mem_map.1 hx
   exact ⟨hlen0 z, hcl0 z⟩
  ·rw [List.getElem?_map, Option.map_eq_some_iff] at hi
   obtain ⟨z, hz, rfl⟩ := hi
   have := bcell_of_cell (hcell i z j s hz hj)
   rwa [addr_add_add a hsp] at this

theorem open_spt {H : Type} {enc : TypeId × Value → H} {P : Program} {W : World} {base base' : Nat} {sp : Nat → Bool} {held : Bool} {fs : Array Field} {t pt tf tb e : TypeId} {v : Value} {d : DataW H} {p : List MemPlace}
  (ht : P.underlying t = some (.slice pt)) (hp : P.underlying pt = some (.struct fs)) (hfs : fs.toList.map (fun f => (f.type, f.offset)) = [(tf, 0), (tf, 4), (tb, 8)]) (hf : P.underlying tf = some (.array 4 e)) (he : P.underlying e = some (.int .u64))
  (hb : P.underlying tb = some .bool) (hce : P.cellsOf e = 1) (hcf : P.cellsOf tf = 4) (hcb : P.cellsOf tb = 1) (hct : P.cellsOf pt = 9) (hok : Value.okWide P W .any base t v) (h : DataW.Trod enc P W base' sp held t v d p)
  (hsz : ∀ el spare, d = .slice el spare → (el.length + spare.length) * 72 ≤ reachBytes) :
  ∃ (q : Option SP) (cap : Nat) (l : List Pnt), v = (TV.one (.slice q l.length cap)).conc Con0 ∧ Sl (fun r o => W.heap[r]? = some o) 9 (.one (.slice q l.length cap)) (l.map Pnt.cells) ∧ l.length ≤ 4398046510976 := by
 obtain ⟨q, cap, l, h1, _, h2, h3⟩ := open_sl (α := Pnt) 9 (fun _ => True) Pnt.cells (fun _ => rfl) (fun _ => rfl) (fun fuel cs y hy => by
  obtain ⟨a, c, b, i1, i2, e1, _⟩ := cl_pt hp hfs hf he hb hce hcf hcb hct hy
  exact ⟨⟨(a, c, b), i1, i2⟩, trivial, e1⟩) ht hct hok h 72 (by omega) hsz
 exact ⟨q, cap, l, h1, h2, h3⟩

theorem open_str {H : Type} {enc : TypeId × Value → H} {P : Program} {W : World} {base base' : Nat} {sp : Nat → Bool} {held : Bool} {fs fp : Array Field} {t te tk pt tf tb e : TypeId} {v : Value} {d : DataW H} {p : List MemPlace}
  (ht : P.underlying t = some (.slice te)) (hte : P.underlying te = some (.struct fs)) (hfe : fs.toList.map (fun f => (f.type, f.offset)) = [(tk, 0), (pt, 4)]) (hk : P.underlying tk = some (.array 4 e)) (hck : P.cellsOf tk = 4)
  (hp : P.underlying pt = some (.struct fp)) (hfs : fp.toList.map (fun f => (f.type, f.offset)) = [(tf, 0), (tf, 4), (tb, 8)]) (hf : P.underlying tf = some (.array 4 e)) (he : P.underlying e = some (.int .u64))
  (hb : P.underlying tb = some .bool) (hce : P.cellsOf e = 1) (hcf : P.cellsOf tf = 4) (hcb : P.cellsOf tb = 1) (hct : P.cellsOf pt = 9) (hcte : P.cellsOf te = 13) (hok : Value.okWide P W .any base t v) (h : DataW.Trod enc P W base' sp held t v d p)
  (hsz : ∀ el spare, d = .slice el spare → (el.length + spare.length) * 104 ≤ reachBytes) :
  ∃ (q : Option SP) (cap : Nat) (l : List Trm), v = (TV.one (.slice q l.length cap)).conc Con0 ∧ (∀ x ∈ l, x.In) ∧ Sl (fun r o => W.heap[r]? = some o) 13 (.one (.slice q l.length cap)) (l.map Trm.cells) ∧ l.length ≤ 4398046510976 :=
 open_sl 13 Trm.In Trm.cells (fun _ => rfl) (fun _ => rfl) (fun fuel cs y hy => by
  obtain ⟨xs, m, _, rfl, hl, hxs, hel⟩ := DataW.trod_struct hte hy
  rw [hcte] at hl
  obtain ⟨fs⟩ := fs
  have h2 : fs.length = 2 := by have := congrArg List.length hfe; simpa using this
  match fs, h2 with
  | [f0, f1], _ =>
   simp only [List.map_cons, List.map_nil, List.cons.injEq, Prod.mk.injEq, and_true] at hfe
   obtain ⟨⟨a0, b0⟩, ⟨a1, b1⟩⟩ := hfe
   match xs, hxs with
   | [x0, x1], _ =>
    have g0 := hel 0 f0 rfl
    have g1 := hel 1 f1 rfl
    rw [a0, b0, hck] at g0
    rw [a1, b1, hct] at g1
    obtain ⟨k, ik, e0, _⟩ := cl_w hk he hce hck g0
    obtain ⟨a, c, b, i1, i2, e1, _⟩ := cl_pt hp hfs hf he hb hce hcf hcb hct g1
    refine ⟨⟨k, a, c, b⟩, ⟨ik, i1, i2⟩, ?_⟩
    unfold Trm.cells
    rw [List.map_append, ← e0, ← e1]
    match cs, hl with
    | [c0, c1, c2, c3, c4, c5, c6, c7, c8, c9, c10, c11, c12], _ => rfl) ht hcte hok h 104 (by omega) hsz

end Go.Hv
