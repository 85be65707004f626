import Derived.Test.YthmdbgdagnhheaaDoorFe0
namespace Go.Ev

theorem swp_cut {G : Cfg} {a b : Code} {Q : Exit → Env → Mem → Prop} {e : Env} {m : Mem}
  (h : ∀ K : Exit → Env → Mem → Prop, (∀ e' m', swp G b Q e' m' → K .normal e' m') → (∀ e' m', Q .ret e' m' → K .ret e' m') → (∀ i e' m', Q (.exit i) e' m' → K (.exit i) e' m') → swp G a K e m) : swp G (.seq a b) Q e m :=
 h _ (fun _ _ h => h) (fun _ _ h => h) (fun _ _ _ h => h)

theorem weq_self (x : Int) : ((x % 18446744073709551616 == x % 18446744073709551616) &&
  ((x / 18446744073709551616 % 18446744073709551616 == x / 18446744073709551616 % 18446744073709551616) &&
   ((x / 340282366920938463463374607431768211456 % 18446744073709551616 == x / 340282366920938463463374607431768211456 % 18446744073709551616) &&
    ((x / 6277101735386680763835789423207666416102355444464034512896 % 18446744073709551616 == x / 6277101735386680763835789423207666416102355444464034512896 % 18446744073709551616) && true)))) = true := by
 simp

theorem mulmod_l (a b n : Int) : a % n * b % n = a * b % n := by
 rw [Int.mul_emod, Int.emod_emod_of_dvd _ (Int.dvd_refl _), ← Int.mul_emod]
theorem mulmod_r (a b n : Int) : a * (b % n) % n = a * b % n := by
 rw [Int.mul_emod, Int.emod_emod_of_dvd _ (Int.dvd_refl _), ← Int.mul_emod]

theorem fn_val {P : Program} {f : FuncId} {a : List TV} {v v' : TV} (h : Fn P f a v) (e : v = v') : Fn P f a v' := e ▸ h

end Go.Ev
