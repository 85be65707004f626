import Derived.Test.YtmappjgknpldpaaEv12
namespace Go.Ev
section
variable {P : Program} {W0 : World} {f : FuncId} {fn : Func}

theorem callFunc_ext {ext : Array Value → Sem Value} (hf : P.funcs[f]? = some fn) (hb : fn.body = none) (hn : (fn.name == "runtime.NumGoroutine") = false)
    (h1 : Extern.findNext fn = none) (h2 : Extern.find fn = some ext) (A : Array Value) (w : World) {v : Value} (hv : (ext A).run P w = .ok v w) : (callFunc f A).run P w = .ok (.value v) w := by
  have hn' : ¬ fn.name = "runtime.NumGoroutine" := by simpa using hn
  simp [callFunc, hf, hb, hn', h1, h2, hv]

theorem run_three {x y c : Int} (hc : c ≤ 1) (nm : String) (w : World) :
    (Extern.MathBitsCarry.three nm #[.int .u64 x, .int .u64 y, .int .u64 c]).run P w = .ok (x.toNat, y.toNat, c.toNat) w := by
  have : ¬ (c.toNat > 1) := by omega
  have e : Extern.MathBitsCarry.three nm #[.int .u64 x, .int .u64 y, .int .u64 c] = (do
      let c := (← asInt (.int .u64 c)).toNat
      if c > 1 then unsupported (.noEntry ("extern/math/bits." ++ nm ++ ": a carry that is neither 0 nor 1"))
      pure ((← asInt (.int .u64 x)).toNat, (← asInt (.int .u64 y)).toNat, c)) := rfl
  rw [e]
  have a1 : ∀ (n : Int) (w : World), (asInt (.int .u64 n)).run P w = .ok n w := fun n w => by simp [asInt, asIntOf]
  simp only [Sem.run_bind, a1, Result.andThen_ok, Sem.run_ite, if_neg this, Sem.run_pure]

theorem primOk_add64 (hf : P.funcs[f]? = some fn) (hb : fn.body = none) (hn : (fn.name == "runtime.NumGoroutine") = false)
    (h1 : Extern.findNext fn = none) (h2 : Extern.find fn = (Extern.MathBitsCarry.rows[0]?).map (·.2)) : PrimOk P W0 f .add64 := by
  intro args K hK
  unfold primC at hK
  split at hK
  · rename_i x y c _
    obtain ⟨⟨hx, hy, hc0, hc1⟩, hK⟩ := hK
    have e : ((x.toNat + y.toNat + c.toNat) % 18446744073709551616 : Nat) + 18446744073709551616 * (((x.toNat + y.toNat + c.toNat) / 18446744073709551616 : Nat) : Int) = x + y + c := by omega
    have huniq : ∀ s t : Int, s + 18446744073709551616 * t = x + y + c → 0 ≤ s → s < 18446744073709551616 → 0 ≤ t →
        s = ((x.toNat + y.toNat + c.toNat) % 18446744073709551616 : Nat) ∧ t = ((x.toNat + y.toNat + c.toNat) / 18446744073709551616 : Nat) := fun s t h1 h2 h3 h4 => by omega
    refine ⟨_, hK _ _ e (by omega) (by omega) (by omega), fun K' hK' => ?_, fun n => rfl, .inl fun c' w => ?_⟩
    · unfold primC
      refine ⟨⟨hx, hy, hc0, hc1⟩, fun s t h1 h2 h3 h4 => ?_⟩
      obtain ⟨rfl, rfl⟩ := huniq s t h1 h2 h3 h4
      exact hK'
    · refine callFunc_ext hf hb hn h1 h2 _ w ?_
      simp only [List.map_cons, List.map_nil, TV.conc, Sc.conc]
      simp [run_three hc1, Extern.MathBitsCarry.pair, Extern.MathBitsCarry.m64, TC.conc, Sc.conc]
  · rename_i heq; cases heq
  · rename_i heq; cases heq
  · exact hK.elim

theorem primOk_sub64 (hf : P.funcs[f]? = some fn) (hb : fn.body = none) (hn : (fn.name == "runtime.NumGoroutine") = false)
    (h1 : Extern.findNext fn = none) (h2 : Extern.find fn = (Extern.MathBitsCarry.rows[1]?).map (·.2)) : PrimOk P W0 f .sub64 := by
  intro args K hK
  unfold primC at hK
  split at hK
  · rename_i heq; cases heq
  · rename_i x y c _
    obtain ⟨⟨hx, hx1, hy, hy1, hc0, hc1⟩, hK⟩ := hK
    have huniq : ∀ s t : Int, s - 18446744073709551616 * t = x - y - c → 0 ≤ s → s < 18446744073709551616 → 0 ≤ t → t ≤ 1 →
        s = ((x.toNat + 18446744073709551616 - y.toNat - c.toNat) % 18446744073709551616 : Nat) ∧ t = ((if x.toNat < y.toNat + c.toNat then 1 else 0 : Nat) : Int) := fun s t h1 h2 h3 h4 h5 => by
      split <;> omega
    have e : (((x.toNat + 18446744073709551616 - y.toNat - c.toNat) % 18446744073709551616 : Nat) : Int) - 18446744073709551616 * ((if x.toNat < y.toNat + c.toNat then 1 else 0 : Nat) : Int) = x - y - c := by
      split <;> omega
    refine ⟨_, hK _ _ e (by omega) (by omega) (by split <;> omega) (by split <;> omega), fun K' hK' => ?_, fun n => rfl, .inl fun c' w => ?_⟩
    · unfold primC
      refine ⟨⟨hx, hx1, hy, hy1, hc0, hc1⟩, fun s t h1 h2 h3 h4 h5 => ?_⟩
      obtain ⟨rfl, rfl⟩ := huniq s t h1 h2 h3 h4 h5
      exact hK'
    · refine callFunc_ext hf hb hn h1 h2 _ w ?_
      simp only [List.map_cons, List.map_nil, TV.conc, Sc.conc]
      simp [run_three hc1, Extern.MathBitsCarry.pair, Extern.MathBitsCarry.m64, TC.conc, Sc.conc]
  · rename_i heq; cases heq
  · exact hK.elim

theorem primOk_mul64 (h : ∀ x y : Int, 0 ≤ x → x < 18446744073709551616 → 0 ≤ y → y < 18446744073709551616 →
    Fn P f [.one (.int .u64 x), .one (.int .u64 y)] (.tup [.one (.int .u64 (x * y / 18446744073709551616)), .one (.int .u64 (x * y % 18446744073709551616))])) : PrimOk P W0 f .mul64 := by
  intro args K hK
  unfold primC at hK
  split at hK
  · rename_i heq; cases heq
  · rename_i heq; cases heq
  · rename_i x y _
    obtain ⟨⟨hx, hx1, hy, hy1⟩, hK⟩ := hK
    have hp0 : 0 ≤ x * y := Int.mul_nonneg hx hy
    have hp1 : x * y ≤ 18446744073709551615 * 18446744073709551615 := Int.mul_le_mul (by omega) (by omega) hy (by omega)
    refine ⟨_, hK (x * y / 18446744073709551616) (x * y % 18446744073709551616) (by omega) (by omega) (by omega) (by omega) (by omega) (by omega), fun K' hK' => ?_, fun n => rfl, .inr fun m => ?_⟩
    · unfold primC
      refine ⟨⟨hx, hx1, hy, hy1⟩, fun s t h1 h2 h3 h4 h5 _ => ?_⟩
      have e1 : s = x * y / 18446744073709551616 := by omega
      have e2 : t = x * y % 18446744073709551616 := by omega
      rw [e1, e2]; exact hK'
    · exact (h x y hx hx1 hy hy1).2 W0 m
  · exact hK.elim

end
end Go.Ev
