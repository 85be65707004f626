import Derived.Test.YtmappjgknpldpaaFe6
namespace Go.Ev

/-- A power modulo M, by squares: what the kernel can count. -/
def pmod (M x : Nat) : Nat → Nat → Nat
  | 0, _ => 1 % M
  | k + 1, e => match e % 2 with
    | 0 => pmod M x k (e / 2) * pmod M x k (e / 2) % M
    | _ => pmod M x k (e / 2) * pmod M x k (e / 2) % M * x % M

theorem pmod_eq (M x : Nat) : ∀ k e, e < 2 ^ k → pmod M x k e = x ^ e % M
  | 0, e, h => by
    have : e = 0 := by simpa using h
    subst this; rfl
  | k + 1, e, h => by
    have ih := pmod_eq M x k (e / 2) (by rw [Nat.pow_succ] at h; omega)
    unfold pmod
    rw [ih]
    generalize hq : e / 2 = q
    split
    · rename_i h0
      have : e = q + q := by omega
      rw [this, Nat.pow_add, ← Nat.mul_mod]
    · rename_i h0
      have h0 : ¬ e % 2 = 0 := h0
      have : e = q + q + 1 := by omega
      rw [this, Nat.pow_succ, Nat.pow_add, ← Nat.mul_mod, Nat.mul_mod (x ^ q * x ^ q % M) x, Nat.mod_mod, ← Nat.mul_mod]

theorem pmod_int (M x : Nat) (k e : Nat) (h : e < 2 ^ k) : ((x : Int) ^ e) % (M : Int) = (pmod M x k e : Nat) := by
  rw [pmod_eq M x k e h]
  simp

theorem sqrt4 : sqrtP 4 = (2, true) := by
  have h : rootP 4 = pmod 115792089237316195423570985008687907853269984665640564039457584007908834671663 4 255 28948022309329048855892746252171976963317496166410141009864396001977208667916 := by
    rw [← pmod_int _ _ _ _ (by decide)]
    rfl
  have h2 : pmod 115792089237316195423570985008687907853269984665640564039457584007908834671663 4 255 28948022309329048855892746252171976963317496166410141009864396001977208667916 = 2 := by kernel_rfl
  have h3 : rootP 4 = 2 := by rw [h, h2]; rfl
  unfold sqrtP
  rw [h3]
  decide

end Go.Ev
