import Derived.Test.YtmappjgknpldpaaFe4
namespace Go.Ev

theorem feOf_fn {n : Int} (hn : InU n) : Fn PG f_fe_Of [.one (u n)] (W n) := by
  refine fn_go h_fe_Of rfl (by kernel_rfl) (fun _ => by kernel_rfl) rfl rfl fun W0 => ?_
  conv => whnf
  have z : InU 0 := ⟨by omega, by omega⟩
  have h : n = val n 0 0 0 := by unfold val; omega
  have h2 := words_val hn z z z
  rw [← h] at h2
  show TV.agg [u n, u 0, u 0, u 0] = W n
  rw [W, h2]

theorem feNeg_fn {x : Int} (hx : InW x) : Fn PG f_fe_Neg [W x] (W (-x % pp)) := by
  refine fn_go h_fe_Neg rfl (by kernel_rfl) (fun _ => by kernel_rfl) rfl rfl fun W0 => ?_
  conv => whnf
  refine ⟨_, prime_fn.2 _ _, rfl, ?_⟩
  conv => whnf
  refine ⟨_, (norm_fn hx).2 _ _, rfl, ?_⟩
  conv => whnf
  have h1 : InW (x % pp) := by unfold pp; exact ⟨by omega, by omega⟩
  have h2 : InW pp := by unfold pp; exact ⟨by omega, by omega⟩
  refine ⟨_, (minus_fn h2 h1).2 _ _, rfl, ?_⟩
  conv => whnf
  refine ⟨_, (norm_fn (x := (pp - x % pp) % 115792089237316195423570985008687907853269984665640564039457584007913129639936) ⟨by omega, by omega⟩).2 _ _, rfl, ?_⟩
  conv => whnf
  have : -x % pp = (pp - x % pp) % 115792089237316195423570985008687907853269984665640564039457584007913129639936 % pp := by
    have : (pp - x % pp) % 115792089237316195423570985008687907853269984665640564039457584007913129639936 = pp - x % pp := by unfold pp; omega
    rw [this]
    unfold pp; omega
  rw [this]
  rfl

theorem feAdd_fn {x y : Int} (hx : InW x) (hy : InW y) : Fn PG f_fe_Add [W x, W y] (W ((x + y) % pp)) := by
  have h1 : InW (x % pp) := by unfold pp; exact ⟨by omega, by omega⟩
  have h2 : InW (y % pp) := by unfold pp; exact ⟨by omega, by omega⟩
  refine fn_go h_fe_Add rfl (by kernel_rfl) (fun _ => by kernel_rfl) rfl rfl fun W0 => ?_
  conv => whnf
  refine ⟨_, (norm_fn hx).2 _ _, rfl, ?_⟩
  conv => whnf
  refine ⟨_, (norm_fn hy).2 _ _, rfl, ?_⟩
  conv => whnf
  refine ⟨_, (plus_fn h1 h2).2 _ _, rfl, ?_⟩
  conv => whnf
  have hs : (x + y) % pp = (x % pp + y % pp) % pp := Int.add_emod x y pp
  rw [hs]
  have hx1 : 0 ≤ x % pp ∧ x % pp < pp := by unfold pp; omega
  have hy1 : 0 ≤ y % pp ∧ y % pp < pp := by unfold pp; omega
  generalize x % pp = X at *
  generalize y % pp = Y at *
  split
  · rename_i h
    have h := of_decide_eq_true h
    conv => whnf
    refine ⟨_, (plus_fn (x := (X + Y) % 115792089237316195423570985008687907853269984665640564039457584007913129639936) (y := 4294968273) ⟨by omega, by omega⟩ ⟨by omega, by omega⟩).2 _ _, rfl, ?_⟩
    conv => whnf
    refine ⟨_, (norm_fn (x := ((X + Y) % 115792089237316195423570985008687907853269984665640564039457584007913129639936 + 4294968273) % 115792089237316195423570985008687907853269984665640564039457584007913129639936) ⟨by omega, by omega⟩).2 _ _, rfl, ?_⟩
    conv => whnf
    have : (X + Y) % pp = ((X + Y) % 115792089237316195423570985008687907853269984665640564039457584007913129639936 + 4294968273) % 115792089237316195423570985008687907853269984665640564039457584007913129639936 % pp := by
      unfold pp at *; omega
    rw [this]
    rfl
  · rename_i h
    have h := of_decide_eq_false h
    conv => whnf
    refine ⟨_, (norm_fn (x := (X + Y) % 115792089237316195423570985008687907853269984665640564039457584007913129639936) ⟨by omega, by omega⟩).2 _ _, rfl, ?_⟩
    conv => whnf
    have : (X + Y) % pp = (X + Y) % 115792089237316195423570985008687907853269984665640564039457584007913129639936 % pp := by
      unfold pp at *; omega
    rw [this]
    rfl

theorem feSub_fn {x y : Int} (hx : InW x) (hy : InW y) : Fn PG f_fe_Sub [W x, W y] (W ((x - y) % pp)) := by
  have h2 : InW (-y % pp) := by unfold pp; exact ⟨by omega, by omega⟩
  refine fn_go h_fe_Sub rfl (by kernel_rfl) (fun _ => by kernel_rfl) rfl rfl fun W0 => ?_
  conv => whnf
  refine ⟨_, (feNeg_fn hy).2 _ _, rfl, ?_⟩
  conv => whnf
  refine ⟨_, (feAdd_fn hx h2).2 _ _, rfl, ?_⟩
  conv => whnf
  have : (x - y) % pp = (x + -y % pp) % pp := by rw [Int.sub_eq_add_neg, Int.add_emod x (-y % pp), Int.emod_emod_of_dvd _ (Int.dvd_refl _), ← Int.add_emod]
  rw [this]
  rfl

theorem and1 {z : Int} (h0 : 0 ≤ z) (h1 : z < 18446744073709551616) : (IntKind.u64).wrap ((BitVec.ofInt (IntKind.u64).bits z &&& BitVec.ofInt (IntKind.u64).bits 1).toNat : Int) = z % 2 := by
  obtain ⟨n, rfl⟩ := Int.eq_ofNat_of_zero_le h0
  have e1 : BitVec.ofInt (IntKind.u64).bits (n : Int) = BitVec.ofNat 64 n := by
    show BitVec.ofInt 64 (n : Int) = _
    rw [BitVec.ofInt_natCast]
  have e2 : BitVec.ofInt (IntKind.u64).bits 1 = BitVec.ofNat 64 1 := rfl
  rw [e1, e2]
  have : ((BitVec.ofNat 64 n &&& BitVec.ofNat 64 1) : BitVec 64).toNat = n % 2 := by
    rw [BitVec.toNat_and, BitVec.toNat_ofNat, BitVec.toNat_ofNat]
    rw [Nat.mod_eq_of_lt (by omega : n < 2 ^ 64)]
    exact Nat.and_one_is_mod n
  show IntKind.wrap .u64 (((BitVec.ofNat 64 n &&& BitVec.ofNat 64 1) : BitVec 64).toNat : Int) = _
  rw [this]
  simp only [IntKind.wrap, IntKind.signed, IntKind.bits]
  simp
  omega

/-- A bit of four words. -/
theorem bit_word {a b c d : Int} (ha : InU a) (hb : InU b) (hc : InU c) (_ : InU d) (s : Nat) (hs : s < 64) :
    val a b c d / 2 ^ s % 2 = a / 2 ^ s % 2 ∧ val a b c d / 2 ^ (64 + s) % 2 = b / 2 ^ s % 2 ∧ val a b c d / 2 ^ (128 + s) % 2 = c / 2 ^ s % 2 ∧ val a b c d / 2 ^ (192 + s) % 2 = d / 2 ^ s % 2 := by
  have hp : (0 : Int) < 2 ^ s := Int.pow_pos (by omega)
  have split : ∀ (x y : Int), (x + 18446744073709551616 * y) / 2 ^ s % 2 = x / 2 ^ s % 2 := fun x y => by
    have e : (18446744073709551616 : Int) = 2 ^ s * (2 * 2 ^ (63 - s)) := by
      have : (2 : Int) ^ s * (2 * 2 ^ (63 - s)) = 2 ^ (s + (1 + (63 - s))) := by rw [Int.pow_add, Int.pow_add]; simp
      rw [this, show s + (1 + (63 - s)) = 64 by omega]
      decide
    rw [e, Int.mul_assoc, Int.mul_assoc, Int.add_mul_ediv_left _ _ (by omega), Int.add_mul_emod_self_left]
  have sh : ∀ (k : Nat) (x : Int), x / 2 ^ (k + s) = x / 2 ^ k / 2 ^ s := fun k x => by
    rw [Int.pow_add, Int.ediv_ediv_of_nonneg (Int.le_of_lt (Int.pow_pos (by omega)))]
  have e1 : val a b c d / 2 ^ 64 = b + 18446744073709551616 * (c + 18446744073709551616 * d) := by
    have : (2 : Int) ^ 64 = 18446744073709551616 := by decide
    rw [this]; unfold val; omega
  have e2 : val a b c d / 2 ^ 128 = c + 18446744073709551616 * d := by
    have : (2 : Int) ^ 128 = 340282366920938463463374607431768211456 := by decide
    rw [this]; unfold val; omega
  have e3 : val a b c d / 2 ^ 192 = d + 18446744073709551616 * 0 := by
    have : (2 : Int) ^ 192 = 6277101735386680763835789423207666416102355444464034512896 := by decide
    rw [this]; unfold val; omega
  refine ⟨?_, ?_, ?_, ?_⟩
  · have : val a b c d = a + 18446744073709551616 * (b + 18446744073709551616 * (c + 18446744073709551616 * d)) := by unfold val; omega
    rw [this]; exact split _ _
  · rw [sh, e1]; exact split _ _
  · rw [sh, e2]; exact split _ _
  · rw [sh, e3]; exact split _ _

end Go.Ev
