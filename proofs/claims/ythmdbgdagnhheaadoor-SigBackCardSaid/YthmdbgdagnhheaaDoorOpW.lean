import Derived.Test.YthmdbgdagnhheaaDoorLaw
import Derived.ChangeArms
import Derived.ChangeSlices
import Derived.DataReads
import Derived.SizedLaws
import Derived.Test.YthmdbgdagnhheaaDoorHs
namespace Go.Hv
open Go.Ev Go.ChangeShapes Go.WideShapes Go.ChangeAt Go.RowKit

theorem calls_of_HC' {P : Program} {f : FuncId} {args : List TV} {b : Bool} {W : World} (h : HC P (fun r o => W.heap[r]? = some o) f args fun v _ => v = .one (.bool b)) :
  Calls P f (args.map (TV.conc Con0)).toArray W fun e W' => e = .returned (.bool b) ∧ Below W.heap.size W W' := by
 refine (h.2 W (fun r o h => h)).mono fun e W' hh => ?_
 obtain ⟨v, N, h1, h2, h3, h4, h5, h6, h7⟩ := hh
 subst h7
 exact ⟨by rw [h1]; rfl, ⟨h5.os, h5.tape, h5.output, h5.size, h6⟩⟩

theorem bcell_of_cell {W : World} {a : Addr} {v : Value} (hc : W.cell? a = some v) : bcell (fun r o => W.heap[r]? = some o) a v := by
 have hs' := World.cell?_spot hc
 unfold World.cell? at hc
 cases hh : W.heap[a.block]? with
 | none => rw [hh] at hc; cases hc
 | some o =>
  rw [hh] at hc
  cases o with
  | cells cs el fz =>
   simp only [hs', Option.isSome_none, Bool.false_eq_true, if_false] at hc
   exact ⟨cs, el, fz, hh, hs', hc⟩
  | _ => cases hc

theorem four_of_trod {H : Type} {enc : TypeId × Value → H} {P : Program} {W : World} {base : Nat} {sp : Nat → Bool} {held : Bool} {t e fuel : Nat} {cs : List Value} {y : DataW H × List MemPlace}
  (ht : P.underlying t = some (.array 4 e)) (he : P.underlying e = some (.int .u64)) (hce : P.cellsOf e = 1) (hct : P.cellsOf t = 4) (h : DataW.trod enc P W base sp held fuel t cs = some y) :
  ∃ x : Int, InW x ∧ cs = (words x).map (Sc.conc Con0) := by
 obtain ⟨xs, m, _, _, hcl, hlen, hel⟩ := DataW.trod_array ht h
 rw [hct] at hcl
 match cs, hcl with
 | [c0, c1, c2, c3], _ =>
  have one : ∀ (i : Nat) (c : Value), [c0, c1, c2, c3][i]? = some c → ∃ z : Int, c = Value.int .u64 z ∧ InU z := fun i c hc => by
   have hi : i < 4 := (List.getElem?_eq_some_iff.1 hc).1
   have h1 := hel i hi
   rw [hce, Nat.mul_one, List.getElem?_eq_getElem (by omega)] at h1
   obtain ⟨z, e1, _, e3⟩ := DataW.trod_int he h1
   refine ⟨z, ?_, wf_u64 e3⟩
   have h0 : (([c0, c1, c2, c3].drop i).take 1)[0]? = some (.int .u64 z) := by rw [e1]; rfl
   have : [c0, c1, c2, c3][i]? = some (.int .u64 z) := by simpa using h0
   rw [hc] at this
   exact Option.some.inj this
  obtain ⟨a, rfl, ha⟩ := one 0 c0 rfl
  obtain ⟨b, rfl, hb⟩ := one 1 c1 rfl
  obtain ⟨c, rfl, hc⟩ := one 2 c2 rfl
  obtain ⟨d, rfl, hd⟩ := one 3 c3 rfl
  have ha' := ha; have hb' := hb; have hc' := hc; have hd' := hd
  unfold InU at ha' hb' hc' hd'
  refine ⟨val a b c d, ⟨by unfold val; omega, by unfold val; omega⟩, ?_⟩
  rw [words_val ha hb hc hd]
  rfl

theorem words_len (x : Int) : (words x).length = 4 ∧ closedL 0 (words x) = true := ⟨rfl, rfl⟩

theorem open_sw {H : Type} {enc : TypeId × Value → H} {P : Program} {W : World} {base base' : Nat} {sp : Nat → Bool} {held : Bool} {t e e2 : TypeId} {v : Value} {d : DataW H} {p : List MemPlace}
  (ht : P.underlying t = some (.slice e)) (he : P.underlying e = some (.array 4 e2)) (he2 : P.underlying e2 = some (.int .u64)) (hce2 : P.cellsOf e2 = 1) (hce : P.cellsOf e = 4)
  (hok : Value.okWide P W .any base t v) (h : DataW.Trod enc P W base' sp held t v d p)
  (hsz : ∀ el spare, d = .slice el spare → (el.length + spare.length) * 32 ≤ reachBytes) :
  ∃ (q : Option SP) (cap : Nat) (l : List Int), v = (TV.one (.slice q l.length cap)).conc Con0 ∧ (∀ x ∈ l, InW x) ∧ Sl (fun r o => W.heap[r]? = some o) 4 (.one (.slice q l.length cap)) (l.map words) ∧
   l.length ≤ 4398046510976 := by
 have hv : v.cells.toList = [v] := by
  cases v <;> first
   | rfl
   | (exfalso; simp [Value.okWide, ht, Cell.okWide, Cell.ok] at hok)
 obtain ⟨fuel, hf⟩ := h
 rw [hv] at hf
 rcases DataW.trod_slice ht hf with ⟨hcs, _⟩ | ⟨a, len, cap, elems, rest, n, _, hcs, hx, _, hl, hm, hlen, hel, _⟩
 ·obtain rfl : v = .slice none 0 0 := by simpa using hcs
  refine ⟨none, 0, [], rfl, fun x hx => (by cases hx), ⟨none, 0, rfl, ⟨Nat.le_refl _, by simp⟩, fun x hx => (by cases hx), rfl, rfl⟩, by simp⟩
 ·obtain rfl : v = .slice (some a) len cap := by simpa using hcs
  have hd : d = .slice (elems.map (·.1)) (rest.map (·.1)) := (Prod.mk.inj hx).1
  have each : ∀ i, i < len → ∃ z : Int, InW z ∧ ∀ j s, (words z)[j]? = some s → W.cell? ((a.add (i * 4)).add j) = some (s.conc Con0) := fun i hi => by
   have h1 := hel i hi
   rw [hce, List.getElem?_eq_getElem (by omega), Option.bind_eq_some_iff] at h1
   obtain ⟨cs, h2, h3⟩ := h1
   obtain ⟨z, hz, rfl⟩ := four_of_trod he he2 hce2 hce h3
   refine ⟨z, hz, fun j s hj => ?_⟩
   unfold World.cells? at h2
   split at h2
   ·have hj4 : j < 4 := (List.getElem?_eq_some_iff.1 hj).1
    have := mapM_some_get h2 j j (by simp [hj4])
    rw [this, List.getElem?_map, hj]
    rfl
   ·cases h2
  have all : ∀ n, n ≤ len → ∃ l : List Int, l.length = n ∧ (∀ x ∈ l, InW x) ∧ ∀ i x j s, l[i]? = some x → (words x)[j]? = some s → W.cell? ((a.add (i * 4)).add j) = some (s.conc Con0) := fun n => by
   induction n with
   | zero => exact fun _ => ⟨[], rfl, fun x hx => (by cases hx), fun i x j s hi => (by simp at hi)⟩
   | succ n ih =>
    intro hn
    obtain ⟨l, h1, h2, h3⟩ := ih (by omega)
    obtain ⟨z, hz, hc⟩ := each n (by omega)
    refine ⟨l ++ [z], by simp [h1], fun x hx => ?_, fun i x j s hi hj => ?_⟩
    ·simp only [List.mem_append, List.mem_singleton] at hx
     rcases hx with hx | rfl
     ·exact h2 x hx
     ·exact hz
    ·rcases Nat.lt_or_ge i l.length with hlt | hge
     ·rw [List.getElem?_append_left hlt] at hi
      exact h3 i x j s hi hj
     ·rw [List.getElem?_append_right hge] at hi
      have hi0 : i - l.length = 0 := by
       have := (List.getElem?_eq_some_iff.1 hi).1
       simp at this
       omega
      rw [hi0] at hi
      simp only [List.getElem?_cons_zero, Option.some.injEq] at hi
      subst hi
      obtain rfl : i = n := by omega
      exact hc j s hj
  obtain ⟨l, hll, hin, hcell⟩ := all len (Nat.le_refl _)
  subst hll
  have hsp : a.spot = none := by
   simp only [Value.okWide, ht, Cell.okWide, Cell.ok] at hok
   exact hok.2.2.2.1
  have hmax : l.length ≤ 4398046510976 := by
   have := hsz _ _ hd
   rw [List.length_map, hlen] at this
   unfold reachBytes at this
   omega
  refine ⟨some (.ext a), cap, l, rfl, hin, ⟨some (.ext a), cap, by rw [List.length_map], ⟨by rw [List.length_map]; omega, by rw [List.length_map]; omega⟩, fun x hx => ?_, hsp, fun i x j s hi hj => ?_⟩, hmax⟩
  ·obtain ⟨z, _, rfl⟩ := List.mem_map.1 hx
   exact words_len z
  ·rw [List.getElem?_map, Option.map_eq_some_iff] at hi
   obtain ⟨z, hz, rfl⟩ := hi
   have := bcell_of_cell (hcell i z j s hz hj)
   rwa [addr_add_add a hsp] at this

end Go.Hv
