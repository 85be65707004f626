import Derived.Test.YtmappjgknpldpaaEv13
namespace Go.Ev
section
variable {P : Program} {t : TypeId}

theorem kStruct {fs : List (Nat × Nat × Bool)} (h : (match P.underlying t with
    | some (.struct f) => some (f.toList.map (fun x => (x.offset, P.cellsOf x.type, isAggB P x.type)), f.toList.all (fun x => (P.info? x.type).isSome && (P.underlying x.type).isSome && P.cellsOf x.type != 0))
    | _ => none) = some (fs, true)) : KRow P t (.struct fs) := by
  split at h
  · rename_i f hu
    simp only [Option.some.injEq, Prod.mk.injEq] at h
    exact ⟨f, hu, h.1, h.2⟩
  · cases h

theorem kArray {n es : Nat} {ag : Bool} (h : (match P.underlying t with
    | some (.array n e) => some (n, (P.info? e).isSome && (P.underlying e).isSome, P.cellsOf e, isAggB P e)
    | _ => none) = some (n, true, es, ag)) : KRow P t (.array n es ag) := by
  split at h
  · rename_i n' e hu
    simp only [Option.some.injEq, Prod.mk.injEq, Bool.and_eq_true] at h
    obtain ⟨rfl, ⟨h1, h2⟩, h3, h4⟩ := h
    exact ⟨e, hu, h1, h2, h3, h4⟩
  · cases h

theorem kSlice {e es eb : Nat} {ag : Bool} (h : (match P.underlying t with
    | some (.slice e) => some (e, (P.info? e).isSome && (P.underlying e).isSome, P.cellsOf e, P.bytesOf e, isAggB P e)
    | _ => none) = some (e, true, es, eb, ag)) : KRow P t (.slice e es eb ag) := by
  split at h
  · rename_i e' hu
    simp only [Option.some.injEq, Prod.mk.injEq, Bool.and_eq_true] at h
    obtain ⟨rfl, ⟨h1, h2⟩, h3, h4, h5⟩ := h
    exact ⟨hu, h1, h2, h3, h4, h5⟩
  · cases h

end
end Go.Ev
