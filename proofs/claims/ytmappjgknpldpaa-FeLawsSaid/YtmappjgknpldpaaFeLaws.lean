import Derived.Test.YtmappjgknpldpaaAl3
namespace Go.Ev

theorem weq_self (x : Int) : ((x % 18446744073709551616 == x % 18446744073709551616) &&
    ((x / 18446744073709551616 % 18446744073709551616 == x / 18446744073709551616 % 18446744073709551616) &&
      ((x / 340282366920938463463374607431768211456 % 18446744073709551616 == x / 340282366920938463463374607431768211456 % 18446744073709551616) &&
        ((x / 6277101735386680763835789423207666416102355444464034512896 % 18446744073709551616 == x / 6277101735386680763835789423207666416102355444464034512896 % 18446744073709551616) && true)))) = true := by
  simp

theorem mulmod_l (a b n : Int) : a % n * b % n = a * b % n := by
  rw [Int.mul_emod, Int.emod_emod_of_dvd _ (Int.dvd_refl _), ← Int.mul_emod]
theorem mulmod_r (a b n : Int) : a * (b % n) % n = a * b % n := by
  rw [Int.mul_emod, Int.emod_emod_of_dvd _ (Int.dvd_refl _), ← Int.mul_emod]

theorem fn_val {P : Program} {f : FuncId} {a : List TV} {v v' : TV} (h : Fn P f a v) (e : v = v') : Fn P f a v' := e ▸ h

theorem feLaws_fn {x y z : Int} (hx : InW x) (hy : InW y) (hz : InW z) : Fn PG f_law03_FeLaws [W x, W y, W z] (.one (.bool true)) := by
  refine fn_go h_law03_FeLaws rfl (by kernel_rfl) (fun _ => by kernel_rfl) rfl rfl fun W0 => ?_
  have a1 := feAdd_fn hx hy
  have a2 := feAdd_fn hy hx
  have a3 := feAdd_fn (inP (x + y)) hz
  have a4 := feAdd_fn hy hz
  have a5 := feAdd_fn hx (inP (y + z))
  have m1 := feMul_fn hx hy
  have m2 := feMul_fn hy hx
  have m3 := feMul_fn (inP (x * y)) hz
  have m4 := feMul_fn hy hz
  have m5 := feMul_fn hx (inP (y * z))
  have m6 := feMul_fn hx (inP (y + z))
  have m7 := feMul_fn hx hz
  have a6 := feAdd_fn (inP (x * y)) (inP (x * z))
  have s1 := feSub_fn (inP (x + y)) hy
  have n1 := norm_fn hx
  have g1 := feNeg_fn hx
  have a7 := feAdd_fn hx (inP (-x))
  have o := feOf_fn (n := 0) ⟨by omega, by omega⟩
  have e2 : (y + x) = x + y := Int.add_comm _ _
  have e3 : ((x + y) % pp + z) % pp = (x + y + z) % pp := by rw [Int.emod_add_emod]
  have e5 : (x + (y + z) % pp) % pp = (x + y + z) % pp := by rw [Int.add_emod_emod, Int.add_assoc]
  have e6 : y * x = x * y := Int.mul_comm _ _
  have e7 : (x * y % pp * z) % pp = (x * y * z) % pp := by rw [mulmod_l]
  have e8 : (x * (y * z % pp)) % pp = (x * y * z) % pp := by rw [mulmod_r, Int.mul_assoc]
  have e9 : (x * ((y + z) % pp)) % pp = (x * y + x * z) % pp := by rw [mulmod_r, Int.mul_add]
  have e10 : (x * y % pp + x * z % pp) % pp = (x * y + x * z) % pp := by rw [← Int.add_emod]
  have e11 : ((x + y) % pp - y) % pp = x % pp := by rw [Int.emod_sub_emod]; congr 1; omega
  have e12 : (x + -x % pp) % pp = 0 := by rw [Int.add_emod_emod, Int.add_right_neg]; rfl
  rw [e2] at a2
  rw [e3] at a3
  rw [e5] at a5
  rw [e6] at m2
  rw [e7] at m3
  rw [e8] at m5
  rw [e9] at m6
  rw [e10] at a6
  rw [e11] at s1
  rw [e12] at a7
  clear e2 e3 e5 e6 e7 e8 e9 e10 e11 e12
  conv => whnf
  refine ⟨_, (a1).2 _ _, rfl, ?_⟩
  conv => whnf
  refine ⟨_, (a2).2 _ _, rfl, ?_⟩
  conv => whnf
  rw [weq_self]
  conv => whnf
  refine ⟨_, (a1).2 _ _, rfl, ?_⟩
  conv => whnf
  refine ⟨_, (a3).2 _ _, rfl, ?_⟩
  conv => whnf
  refine ⟨_, (a4).2 _ _, rfl, ?_⟩
  conv => whnf
  refine ⟨_, (a5).2 _ _, rfl, ?_⟩
  conv => whnf
  rw [weq_self]
  conv => whnf
  refine ⟨_, (m1).2 _ _, rfl, ?_⟩
  conv => whnf
  refine ⟨_, (m2).2 _ _, rfl, ?_⟩
  conv => whnf
  rw [weq_self]
  conv => whnf
  refine ⟨_, (m1).2 _ _, rfl, ?_⟩
  conv => whnf
  refine ⟨_, (m3).2 _ _, rfl, ?_⟩
  conv => whnf
  refine ⟨_, (m4).2 _ _, rfl, ?_⟩
  conv => whnf
  refine ⟨_, (m5).2 _ _, rfl, ?_⟩
  conv => whnf
  rw [weq_self]
  conv => whnf
  refine ⟨_, (a4).2 _ _, rfl, ?_⟩
  conv => whnf
  refine ⟨_, (m6).2 _ _, rfl, ?_⟩
  conv => whnf
  refine ⟨_, (m1).2 _ _, rfl, ?_⟩
  conv => whnf
  refine ⟨_, (m7).2 _ _, rfl, ?_⟩
  conv => whnf
  refine ⟨_, (a6).2 _ _, rfl, ?_⟩
  conv => whnf
  rw [weq_self]
  conv => whnf
  refine ⟨_, (a1).2 _ _, rfl, ?_⟩
  conv => whnf
  refine ⟨_, (s1).2 _ _, rfl, ?_⟩
  conv => whnf
  refine ⟨_, (n1).2 _ _, rfl, ?_⟩
  conv => whnf
  rw [weq_self]
  conv => whnf
  refine ⟨_, (g1).2 _ _, rfl, ?_⟩
  conv => whnf
  refine ⟨_, (a7).2 _ _, rfl, ?_⟩
  conv => whnf
  refine ⟨_, (o).2 _ _, rfl, ?_⟩
  conv => whnf
  refine ⟨_, alive3_fn.2 _ _, rfl, ?_⟩
  conv => whnf
  rfl

end Go.Ev
