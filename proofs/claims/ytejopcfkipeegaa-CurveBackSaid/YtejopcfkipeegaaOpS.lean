import Derived.Test.YtejopcfkipeegaaLaw
import Derived.ChangeSlices
import Derived.DataReads
import Derived.Test.YtejopcfkipeegaaCuJ
namespace Go.Hv
open Go.Ev Go.ChangeShapes Go.WideShapes Go.ChangeAt Go.RowKit

/-- A law that reads memory: its call, as the rows ask it. -/
theorem calls_of_HC {P : Program} {f : FuncId} {args : List TV} {b : Bool} {W : World} (h : HC P (fun r o => W.heap[r]? = some o) f args fun v _ => v = .one (.bool b)) :
    Calls P f (args.map (TV.conc Con0)).toArray W fun e W' => e = .returned (.bool b) ∧ Below W.heap.size W W' := by
  refine (h.2 W (fun r o h => h)).mono fun e W' hh => ?_
  obtain ⟨v, N, h1, h2, h3, h4, h5, h6, h7⟩ := hh
  subst h7
  exact ⟨by rw [h1]; rfl, ⟨h5.os, h5.tape, h5.output, h5.size, h6⟩⟩

/-- Bytes that came in as a slice. -/
theorem open_s {H : Type} {enc : TypeId × Value → H} {P : Program} {W : World} {base base' : Nat} {sp : Nat → Bool} {held : Bool} {t e : TypeId} {v : Value} {d : DataW H} {p : List MemPlace}
    (ht : P.underlying t = some (.slice e)) (he : P.underlying e = some (.int .u8)) (hce : P.cellsOf e = 1) (hok : Value.okWide P W .any base t v) (h : DataW.Trod enc P W base' sp held t v d p) :
    ∃ (q : Option SP) (n cap : Nat), v = (TV.one (.slice q n cap)).conc Con0 ∧ SlN q ∧ (n = 33 → ∃ L, isB L ∧ L.length = 33 ∧ Sl (fun r o => W.heap[r]? = some o) 1 (.one (.slice q n cap)) (ones L)) := by
  have hv : v.cells.toList = [v] := by
    cases v <;> first
      | rfl
      | (exfalso; simp [Value.okWide, ht, Cell.okWide, Cell.ok] at hok)
  obtain ⟨fuel, hf⟩ := h
  rw [hv] at hf
  rcases open_ints ht he hce hf with ⟨hcs, _⟩ | ⟨a, len, cap, zs, hcs, _, hl, _, hzs, _, hcell, hwf⟩
  · obtain rfl : v = .slice none 0 0 := by simpa using hcs
    exact ⟨none, 0, 0, rfl, fun b o h => (by cases h), fun h => (by cases h)⟩
  · obtain rfl : v = .slice (some a) len cap := by simpa using hcs
    have hlz : len ≤ zs.length := by rw [hzs]; split <;> omega
    refine ⟨some (.ext a), len, cap, rfl, fun b o h => (by cases h), fun h33 => ?_⟩
    subst h33
    have hB : isB ((zs.take 33).map (Sc.int .u8)) := fun s hs => by
      obtain ⟨z, hz, rfl⟩ := List.mem_map.1 hs
      have hw := wf_u8' (hwf z (List.mem_of_mem_take hz))
      exact ⟨z, rfl, hw⟩
    have hlen : ((zs.take 33).map (Sc.int .u8)).length = 33 := by rw [List.length_map, List.length_take]; omega
    have hsp : a.spot = none := by
      have := hcell 0 (by omega)
      exact World.cell?_spot this
    refine ⟨_, hB, hlen, some (.ext a), cap, by rw [ones_len, hlen], by rw [ones_len, hlen]; omega, fun x hx => ?_, hsp, fun i x j s hi hj => ?_⟩
    · obtain ⟨s, hs, rfl⟩ := List.mem_map.1 hx
      obtain ⟨z, rfl, _⟩ := hB s hs
      exact ⟨rfl, rfl⟩
    · have hi33 : i < 33 := by
        have := (List.getElem?_eq_some_iff.1 hi).1
        rw [ones_len, hlen] at this
        exact this
      have hz : zs[i]? = some (zs.getD i 0) := by
        rw [List.getD_eq_getElem?_getD, List.getElem?_eq_getElem (by omega)]
        rfl
      have hx : x = [Sc.int .u8 (zs.getD i 0)] := by
        have : (ones ((zs.take 33).map (Sc.int .u8)))[i]? = some [Sc.int .u8 (zs.getD i 0)] := ones_get (by
          rw [List.getElem?_map, List.getElem?_take_of_lt hi33, hz]
          rfl)
        rw [this] at hi
        exact (Option.some.inj hi).symm
      subst hx
      have hj0 : j = 0 := by
        have := (List.getElem?_eq_some_iff.1 hj).1
        simpa using this
      subst hj0
      obtain rfl : Sc.int .u8 (zs.getD i 0) = s := by simpa using hj
      have hc := hcell i (by omega)
      have hs' := World.cell?_spot hc
      have e : a.add (i * 1 + 0) = a.add i := by rw [Nat.mul_one, Nat.add_zero]
      rw [e]
      unfold World.cell? at hc
      cases hh : W.heap[(a.add i).block]? with
      | none => rw [hh] at hc; cases hc
      | some o =>
        rw [hh] at hc
        cases o with
        | cells cs el fz =>
          simp only [hs', Option.isSome_none, Bool.false_eq_true, if_false] at hc
          exact ⟨cs, el, fz, hh, hs', hc⟩
        | _ => cases hc

end Go.Hv
