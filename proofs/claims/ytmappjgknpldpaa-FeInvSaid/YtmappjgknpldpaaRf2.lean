import Derived.Test.YtmappjgknpldpaaRf1
namespace Go.Ev

def or2 (a b : Int) : Int := (a.toNat ||| b.toNat : Nat)

theorem or_u {a b : Int} (ha : InU a) (hb : InU b) : (IntKind.u64).wrap ((BitVec.ofInt (IntKind.u64).bits a ||| BitVec.ofInt (IntKind.u64).bits b).toNat : Int) = or2 a b ∧ InU (or2 a b) ∧ (or2 a b = 0 ↔ a = 0 ∧ b = 0) := by
  obtain ⟨n, rfl⟩ := Int.eq_ofNat_of_zero_le ha.1
  obtain ⟨m, rfl⟩ := Int.eq_ofNat_of_zero_le hb.1
  have hn : n < 2 ^ 64 := by have := ha.2; omega
  have hm : m < 2 ^ 64 := by have := hb.2; omega
  have hlt : n ||| m < 2 ^ 64 := Nat.or_lt_two_pow hn hm
  have e : (BitVec.ofInt (IntKind.u64).bits (n : Int) ||| BitVec.ofInt (IntKind.u64).bits (m : Int)).toNat = n ||| m := by
    show (BitVec.ofInt 64 (n : Int) ||| BitVec.ofInt 64 (m : Int)).toNat = n ||| m
    rw [BitVec.toNat_or, BitVec.ofInt_natCast, BitVec.ofInt_natCast, BitVec.toNat_ofNat, BitVec.toNat_ofNat, Nat.mod_eq_of_lt hn, Nat.mod_eq_of_lt hm]
  rw [e]
  refine ⟨?_, ⟨by unfold or2; simp, by unfold or2; simp; omega⟩, ?_⟩
  · show ((n ||| m : Nat) : Int) % 18446744073709551616 = _
    unfold or2
    simp only [Int.toNat_natCast]
    omega
  · unfold or2
    simp only [Int.toNat_natCast, Int.natCast_eq_zero, Nat.or_eq_zero_iff]
end Go.Ev
