import Derived.Test.YtaochmekimkegaaDoorMc3
namespace Go.Ec

def PPn : Nat := 115792089237316195423570985008687907853269984665640564039457584007908834671663
instance : NeZero PPn := ⟨by decide⟩
theorem PPn_pr : Nt.Pr PPn := Nt.prime_p

theorem val_nat (k : Nat) (h : k < PPn) : (Fin.ofNat PPn k).val = k := Nat.mod_eq_of_lt h

theorem nat_inv {P a : Nat} (h3 : 3 ≤ P) (hf : a ^ (P - 1) % P = 1) : a * (a ^ (P - 2) % P) % P = 1 := by
 have : P - 1 = (P - 2) + 1 := by omega
 rw [this, Nat.pow_succ, Nat.mul_comm] at hf
 rw [Nat.mul_mod_mod]
 exact hf

theorem nat_c {P c : Nat} (h7 : 7 < P) (hv : (c + 7) % P = 0) : (P - 7) % P = c % P := by
 obtain ⟨k, hk⟩ := Nat.dvd_of_mod_eq_zero hv
 have hk0 : k ≠ 0 := fun h => by subst h; omega
 obtain ⟨j, rfl⟩ : ∃ j, k = j + 1 := ⟨k - 1, by omega⟩
 have : c = (P - 7) + P * j := by rw [Nat.mul_add] at hk; omega
 rw [this, Nat.add_mul_mod_self_left]

theorem fin_inv (a : Fin PPn) (ha : a ≠ 0) : ∃ b, a * b = 1 := by
 have hv : ¬ PPn ∣ a.val := fun h => ha (Fin.ext (Nat.eq_zero_of_dvd_of_lt h a.isLt))
 have hf := Nt.fermat PPn_pr hv
 refine ⟨Fin.ofNat PPn (a.val ^ (PPn - 2)), Fin.ext ?_⟩
 rw [Fin.val_mul]
 have e1 : (1 : Fin PPn).val = 1 := rfl
 have e2 : (Fin.ofNat PPn (a.val ^ (PPn - 2))).val = a.val ^ (PPn - 2) % PPn := rfl
 rw [e1, e2]
 exact nat_inv (by decide) hf

theorem fld : Fld PPn := by
 refine ⟨fin_inv, by decide, by decide, by decide, fun x h => ?_⟩
 have hv : (x.val * x.val * x.val + 7) % PPn = 0 := by
  have := congrArg Fin.val h
  rw [Fin.val_add, Fin.val_mul, Fin.val_mul] at this
  have e7 : (7 : Fin PPn).val = 7 := rfl
  have e0 : (0 : Fin PPn).val = 0 := rfl
  rw [e7, e0] at this
  simpa [Nat.add_mod, Nat.mul_mod] using this
 have hx : ¬ PPn ∣ x.val := fun hd => by
  have h0 : x.val = 0 := Nat.eq_zero_of_dvd_of_lt hd x.isLt
  rw [h0] at hv
  revert hv
  decide
 have hf := Nt.fermat PPn_pr hx
 have hp : Nt.pmod PPn (PPn - 7) 256 ((PPn - 1) / 3) ≠ 1 := by
  intro h
  have : (Nt.pmod PPn (PPn - 7) 256 ((PPn - 1) / 3) == 1) = false := by kernel_rfl
  rw [h] at this
  cases this
 rw [Nt.pmod_eq _ _ _ _ (by decide)] at hp
 apply hp
 have hc : (PPn - 7) % PPn = x.val ^ 3 % PPn := by
  have h3 : x.val ^ 3 = x.val * x.val * x.val := by rw [Nat.pow_succ, Nat.pow_succ, Nat.pow_one]
  rw [h3]
  exact nat_c (by decide) hv
 rw [Nat.pow_mod, hc, ← Nat.pow_mod, ← Nat.pow_mul]
 have e3 : 3 * ((PPn - 1) / 3) = PPn - 1 := by decide
 rw [e3, hf]

section
variable {p : Nat} [NeZero p]
noncomputable def smul (k : Nat) (P : Pt p) : Pt p := match k with
 | 0 => none
 | k + 1 => add (smul k P) P

variable (F : Fld p)
include F

theorem smul_on (P : Pt p) (h : On P) : ∀ k, On (smul k P)
 | 0 => trivial
 | k + 1 => add_on F _ _ (smul_on P h k) h

theorem smul_add (P : Pt p) (h : On P) (a : Nat) : ∀ b, smul (a + b) P = add (smul a P) (smul b P)
 | 0 => by rw [Nat.add_zero]; exact (add_none F _ (smul_on F P h a)).symm
 | b + 1 => by
  show add (smul (a + b) P) P = add (smul a P) (add (smul b P) P)
  rw [smul_add P h a b, add_assoc F _ _ _ (smul_on F P h a) (smul_on F P h b) h]

theorem smul_mul (P : Pt p) (h : On P) (a : Nat) : ∀ b, smul (a * b) P = smul b (smul a P)
 | 0 => rfl
 | b + 1 => by
  show smul (a * b + a) P = add (smul b (smul a P)) (smul a P)
  rw [smul_add F P h, smul_mul P h a b]

omit F in
theorem smul_none : ∀ k, (F : Fld p) → smul k (none : Pt p) = none
 | 0, _ => rfl
 | k + 1, F => by
  show add (smul k none) none = none
  rw [smul_none k F]; exact add_none F none trivial

theorem smul_sum (P Q : Pt p) (hP : On P) (hQ : On Q) : ∀ k, smul k (add P Q) = add (smul k P) (smul k Q)
 | 0 => (add_none F none trivial).symm
 | k + 1 => by
  have h1 := smul_on F P hP k
  have h2 := smul_on F Q hQ k
  show add (smul k (add P Q)) (add P Q) = add (add (smul k P) P) (add (smul k Q) Q)
  rw [smul_sum P Q hP hQ k, add_assoc F _ _ _ h1 h2 (add_on F _ _ hP hQ), ← add_assoc F _ _ _ h2 hP hQ, add_comm (smul k Q) P, add_assoc F _ _ _ hP h2 hQ, ← add_assoc F _ _ _ h1 hP (add_on F _ _ h2 hQ)]

end
end Go.Ec
