import Derived.Test.YtaochmekimkegaaDoorMc4
namespace Go.Ec
section
variable {p : Nat} [NeZero p] (F : Fld p)
include F

theorem cancel (A B C : Pt p) (hA : On A) (hB : On B) (hC : On C) (h : add A B = add A C) : B = C := by
 have hn := neg_on A hA
 have e : ∀ D : Pt p, On D → add (neg A) (add A D) = D := fun D hD => by
  rw [← add_assoc F _ _ _ hn hA hD, add_comm (neg A) A, add_neg F A hA, none_add F D hD]
 rw [← e B hB, h, e C hC]

theorem no2 (Q : Pt p) (h : On Q) (h2 : add Q Q = none) : Q = none := by
 cases Q with
 | none => rfl
 | some a =>
  obtain ⟨x, y⟩ := a
  rw [add_tangent F h rfl] at h2
  cases h2

theorem smul_gcd (P : Pt p) (h : On P) : ∀ a b : Nat, smul a P = none → smul b P = none → smul (Nat.gcd a b) P = none := by
 intro a b
 induction a, b using Nat.gcd.induction with
 | H0 n => intro _ h2; simpa using h2
 | H1 m n hm ih =>
  intro h1 h2
  rw [Nat.gcd_rec]
  refine ih ?_ h1
  have e : n = m * (n / m) + n % m := (Nat.div_add_mod n m).symm
  rw [e, smul_add F P h, smul_mul F P h, h1, smul_none _ F, none_add F _ (smul_on F P h _)] at h2
  exact h2

theorem smul_inj (G : Pt p) (hG : On G) {n : Nat} (hn : Nt.Pr n) (h0 : smul n G = none) (h1 : G ≠ none) : ∀ i j, i ≤ j → j < n → smul i G = smul j G → i = j := by
 intro i j hij hj he
 apply Classical.byContradiction
 intro hne
 have hd : smul (j - i) G = none := by
  have e : j = i + (j - i) := by omega
  rw [e, smul_add F G hG] at he
  have := cancel F (smul i G) none (smul (j - i) G) (smul_on F G hG _) trivial (smul_on F G hG _) (by rw [add_none F _ (smul_on F G hG _)]; exact he)
  exact this.symm
 have hg := smul_gcd F G hG _ _ h0 hd
 have hc : Nat.gcd n (j - i) = 1 := hn.coprime fun h => by
  have := Nat.le_of_dvd (by omega) h
  omega
 rw [hc] at hg
 apply h1
 have : smul 1 G = G := none_add F G hG
 rw [← this]; exact hg

end

def code : Pt PPn → Nat
 | none => 2 * PPn
 | some (x, y) => 2 * x.val + y.val % 2

theorem code_lt (P : Pt PPn) : code P < 2 * PPn + 1 := by
 cases P with
 | none => simp [code]
 | some a =>
  obtain ⟨x, y⟩ := a
  have := x.isLt
  simp only [code]; omega

theorem par {P a b : Nat} (hP : P % 2 = 1) (ha : a < P) (hb : b < P) (h : (a + b) % P = 0) (ha0 : a ≠ 0) (hp : a % 2 = b % 2) : False := by
 obtain ⟨k, hk⟩ := Nat.dvd_of_mod_eq_zero h
 have hk1 : k = 1 := by
  rcases k with _ | _ | k
  ·omega
  ·rfl
  ·have : P * (k + 1 + 1) = P * k + P + P := by rw [Nat.mul_add, Nat.mul_add, Nat.mul_one]
   have := Nat.zero_le (P * k)
   omega
 subst hk1
 omega

theorem code_inj (P Q : Pt PPn) (hP : On P) (hQ : On Q) (h : code P = code Q) : P = Q := by
 cases P with
 | none =>
  cases Q with
  | none => rfl
  | some b =>
   obtain ⟨x, y⟩ := b
   have := x.isLt
   simp only [code] at h; omega
 | some a =>
  obtain ⟨x, y⟩ := a
  cases Q with
  | none =>
   have := x.isLt
   simp only [code] at h; omega
  | some b =>
   obtain ⟨x', y'⟩ := b
   simp only [code] at h
   have hx : x = x' := Fin.ext (by omega)
   subst hx
   have hy : y.val % 2 = y'.val % 2 := by omega
   simp only [On] at hP hQ
   have hprod : (y - y') * (y + y') = 0 := by grind
   by_cases hd : y - y' = 0
   ·have : y = y' := by grind
    rw [this]
   ·exfalso
    have hs := fld.nz hprod hd
    have hv : (y.val + y'.val) % PPn = 0 := by
     have := congrArg Fin.val hs
     rw [Fin.val_add] at this
     exact this
    have hy0 : y.val ≠ 0 := fun h0 => fld.y0 hP (Fin.ext h0)
    exact par (by decide) y.isLt y'.isLt hv hy0 hy

def NNn : Nat := 115792089237316195423570985008687907852837564279074904382605163141518161494337

theorem three_n {n p2 i : Nat} (h : i < p2 + 1) (hp : p2 + 1 ≤ 3 * n) : i < n ∨ (n ≤ i ∧ i - n < n) ∨ (n + n ≤ i ∧ i - (n + n) < n) := by omega

theorem order_all {n : Nat} (hNpr : Nt.Pr n) (hle : 2 * PPn + 1 + 1 ≤ 3 * n) (G : Pt PPn) (hG : On G) (h0 : smul n G = none) (h1 : G ≠ none) (P : Pt PPn) (hP : On P) : smul n P = none := by
 apply Classical.byContradiction
 intro hne
 have F := fld
 have hnP := smul_on F P hP n
 have onG : ∀ i, On (smul i G) := smul_on F G hG
 have hPP := add_on F P P hP hP
 have nG : ∀ i, smul n (smul i G) = none := fun i => by rw [← smul_mul F G hG, Nat.mul_comm, smul_mul F G hG, h0, smul_none _ F]
 let f : Nat → Pt PPn := fun i => if i < n then smul i G else if i - n < n then add P (smul (i - n) G) else add (add P P) (smul (i - (n + n)) G)
 have onf : ∀ i, On (f i) := fun i => by
  simp only [f]
  split
  ·exact onG _
  ·split
   ·exact add_on F _ _ hP (onG _)
   ·exact add_on F _ _ hPP (onG _)
 have hcl : ∀ i, code (f i) < 2 * PPn + 1 := fun i => code_lt (f i)
 obtain ⟨i, j, hij, hj, he⟩ : ∃ i j, i < j ∧ j < 2 * PPn + 1 + 1 ∧ code (f i) = code (f j) := by
  generalize 2 * PPn + 1 = q at hcl
  exact Nt.pigeon q (fun i => code (f i)) (fun i _ => hcl i)
 have hf := code_inj _ _ (onf i) (onf j) he
 have hi3 := three_n (i := i) (by omega) hle
 have hj3 := three_n (i := j) hj hle
 have hc := congrArg (smul n) hf
 have v1 : ∀ k, smul n (add P (smul k G)) = smul n P := fun k => by
  rw [smul_sum F _ _ hP (onG k), nG, add_none F _ hnP]
 have v2 : ∀ k, smul n (add (add P P) (smul k G)) = add (smul n P) (smul n P) := fun k => by
  rw [smul_sum F _ _ hPP (onG k), nG, add_none F _ (smul_on F _ hPP _), smul_sum F _ _ hP hP]
 have hne2 : add (smul n P) (smul n P) ≠ none := fun h => hne (no2 F _ hnP h)
 have hne3 : add (smul n P) (smul n P) ≠ smul n P := fun h => hne (cancel F (smul n P) _ none hnP hnP trivial (by rw [h, add_none F _ hnP]))
 have inj : ∀ a b, a < b → b < n → smul a G ≠ smul b G := fun a b hab hb h => by
  have := smul_inj F G hG hNpr h0 h1 a b (by omega) hb h
  omega
 rcases hi3 with h | ⟨ha, hb⟩ | ⟨ha, hb⟩ <;> rcases hj3 with k | ⟨ka, kb⟩ | ⟨ka, kb⟩
 ·simp only [f, if_pos h, if_pos k] at hf
  exact inj i j hij k hf
 ·have k' : ¬ j < n := by omega
  simp only [f, if_pos h, if_neg k', if_pos kb, nG, v1] at hc
  exact hne hc.symm
 ·have k' : ¬ j < n := by omega
  have k'' : ¬ j - n < n := by omega
  simp only [f, if_pos h, if_neg k', if_neg k'', nG, v2] at hc
  exact hne2 hc.symm
 ·omega
 ·have h' : ¬ i < n := by omega
  have k' : ¬ j < n := by omega
  simp only [f, if_neg h', if_pos hb, if_neg k', if_pos kb] at hf
  exact inj (i - n) (j - n) (by omega) kb (cancel F P _ _ hP (onG _) (onG _) hf)
 ·have h' : ¬ i < n := by omega
  have k' : ¬ j < n := by omega
  have k'' : ¬ j - n < n := by omega
  simp only [f, if_neg h', if_pos hb, if_neg k', if_neg k'', v1, v2] at hc
  exact hne3 hc.symm
 ·omega
 ·omega
 ·have h' : ¬ i < n := by omega
  have h'' : ¬ i - n < n := by omega
  have k' : ¬ j < n := by omega
  have k'' : ¬ j - n < n := by omega
  simp only [f, if_neg h', if_neg h'', if_neg k', if_neg k''] at hf
  exact inj (i - (n + n)) (j - (n + n)) (by omega) kb (cancel F (add P P) _ _ hPP (onG _) (onG _) hf)

end Go.Ec
