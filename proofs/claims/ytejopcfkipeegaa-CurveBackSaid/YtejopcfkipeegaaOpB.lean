import Derived.Test.YtejopcfkipeegaaBy5
namespace Go.Hv
open Go.Ev

/-- Thirty-two bytes that came in. -/
theorem open_b {H : Type} {enc : TypeId × Value → H} {P : Program} {W0 : World} {base base' : Nat} {sp : Nat → Bool} {held : Bool} {t e : TypeId} {v : Value} {d : DataW H} {p : List MemPlace}
    (ht : P.underlying t = some (.array 32 e)) (he : P.underlying e = some (.int .u8)) (hce : P.cellsOf e = 1) (hct : P.cellsOf t = 32) (hok : Value.okWide P W0 .any base t v) (h : DataW.Trod enc P W0 base' sp held t v d p) :
    ∃ x : Int, InW x ∧ v = (TV.agg (bcs4 x)).conc Con0 ∧ p = [] := by
  obtain ⟨l, rfl, hl, hwf, hp⟩ := open_arr ht he hce hct hok h
  obtain ⟨l0, l1, l2, l3, u0, u1, u2, u3, e⟩ := bytes_of hl (fun x hx => wf_u8' (hwf x hx))
  refine ⟨val l0 l1 l2 l3, by unfold val; exact ⟨by omega, by omega⟩, ?_, hp⟩
  rw [← bcsL_val u0 u1 u2 u3, ← e]
  simp only [TV.conc, List.map_map]
  rfl

end Go.Hv
