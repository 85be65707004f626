import Derived.KernelRfl

namespace Go.Nt

theorem pigeon : ∀ (n : Nat) (f : Nat → Nat), (∀ i, i < n + 1 → f i < n) → ∃ i j, i < j ∧ j < n + 1 ∧ f i = f j
 | 0, f, h => absurd (h 0 (by omega)) (by omega)
 | n + 1, f, h => by
  by_cases hm : ∃ i, i < n + 1 ∧ f i = f (n + 1)
  ·obtain ⟨i, hi, he⟩ := hm
   exact ⟨i, n + 1, hi, by omega, he⟩
  ·have hne : ∀ i, i < n + 1 → f i ≠ f (n + 1) := fun i hi he => hm ⟨i, hi, he⟩
   obtain ⟨i, j, hij, hj, he⟩ := pigeon n (fun i => if f i = n then f (n + 1) else f i) (fun i hi => by
    have h1 := h i (by omega)
    have h2 := h (n + 1) (by omega)
    have h3 := hne i hi
    split <;> omega)
   have h1 := hne i (by omega)
   have h2 := hne j hj
   refine ⟨i, j, hij, by omega, ?_⟩
   split at he <;> split at he <;> omega

def prodF (f : Nat → Nat) : Nat → Nat
 | 0 => 1
 | n + 1 => prodF f n * f n

theorem prodF_congr {f g : Nat → Nat} : ∀ n, (∀ i, i < n → f i = g i) → prodF f n = prodF g n
 | 0, _ => rfl
 | n + 1, h => by
  simp only [prodF]
  rw [prodF_congr n (fun i hi => h i (by omega)), h n (by omega)]

theorem prodF_upd {f g : Nat → Nat} {j : Nat} : ∀ n, j < n → (∀ i, i ≠ j → f i = g i) → prodF f n * g j = prodF g n * f j
 | 0, h, _ => absurd h (by omega)
 | n + 1, h, he => by
  simp only [prodF]
  by_cases hj : j = n
  ·subst hj
   rw [prodF_congr j (f := f) (g := g) (fun i hi => he i (by omega)), Nat.mul_right_comm]
  ·have := prodF_upd n (j := j) (f := f) (g := g) (by omega) he
   rw [he n (fun e => hj e.symm), Nat.mul_right_comm, this, Nat.mul_right_comm]

theorem prodF_perm (g : Nat → Nat) : ∀ (n : Nat) (f : Nat → Nat), (∀ i, i < n → f i < n) → (∀ i j, i < n → j < n → f i = f j → i = j) → prodF (fun i => g (f i)) n = prodF g n
 | 0, _, _, _ => rfl
 | n + 1, f, hf, hi => by
  by_cases hn : f n = n
  ·simp only [prodF, hn]
   rw [prodF_perm g n f (fun i h => by
    have h1 := hf i (by omega)
    have h2 : f i ≠ n := fun e => by have := hi i n (by omega) (by omega) (e.trans hn.symm); omega
    omega) (fun i j h1 h2 => hi i j (by omega) (by omega))]
  ·have hj : ∃ j, j < n + 1 ∧ f j = n := by
    by_cases hj : ∃ j, j < n + 1 ∧ f j = n
    ·exact hj
    ·exfalso
     have hne : ∀ j, j < n + 1 → f j ≠ n := fun j h e => hj ⟨j, h, e⟩
     obtain ⟨i, j, h1, h2, h3⟩ := pigeon n f (fun i h => by have := hf i h; have := hne i h; omega)
     have := hi i j (by omega) h2 h3
     omega
   obtain ⟨j, hj, hfj⟩ := hj
   have hjn : j ≠ n := fun e => hn (by rw [← e]; exact hfj.trans e.symm)
   have hfn : f n < n := by have := hf n (by omega); omega
   have h1 := prodF_perm g n (fun i => if i = j then f n else f i) (fun i h => by
    split
    ·exact hfn
    ·rename_i hij
     have h1 := hf i (by omega)
     have h2 : f i ≠ n := fun e => hij (hi i j (by omega) (by omega) (e.trans hfj.symm))
     omega) (fun i k h1 h2 he => by
    split at he <;> split at he
    ·omega
    ·have := hi n k (by omega) (by omega) he; omega
    ·have := hi i n (by omega) (by omega) he; omega
    ·exact hi i k (by omega) (by omega) he)
   have h2 := prodF_upd (f := fun i => g (f i)) (g := fun i => g (if i = j then f n else f i)) (j := j) n (by omega) (fun i hij => by simp only [if_neg hij])
   rw [h1] at h2
   simp only [if_true, hfj] at h2
   simp only [prodF]
   exact h2

def Pr (p : Nat) : Prop := 2 ≤ p ∧ ∀ d, d ∣ p → d = 1 ∨ d = p

theorem Pr.coprime {p a : Nat} (hp : Pr p) (h : ¬ p ∣ a) : Nat.Coprime p a := by
 rcases hp.2 _ (Nat.gcd_dvd_left p a) with h1 | h1
 ·exact h1
 ·exact absurd (h1 ▸ Nat.gcd_dvd_right p a) h

theorem Pr.mul {p a b : Nat} (hp : Pr p) (h : p ∣ a * b) : p ∣ a ∨ p ∣ b := by
 by_cases ha : p ∣ a
 ·exact .inl ha
 ·exact .inr ((hp.coprime ha).dvd_of_dvd_mul_left h)

theorem dvd_of_mod {p a b : Nat} (h : a % p = b % p) : p ∣ b - a := Nat.dvd_of_mod_eq_zero (Nat.sub_mod_eq_zero_of_mod_eq h.symm)

theorem mod_of_dvd {p a b : Nat} (hab : a ≤ b) (h : p ∣ b - a) : a % p = b % p := by
 obtain ⟨k, hk⟩ := h
 have : b = a + p * k := by omega
 rw [this, Nat.add_mul_mod_self_left]

theorem mod_cancel {p a b c : Nat} (hp : Nat.Coprime p c) (h : a * c % p = b * c % p) : a % p = b % p := by
 rcases Nat.le_total a b with hab | hab
 ·have : p ∣ (b - a) * c := by
   rw [Nat.sub_mul]; exact dvd_of_mod h
  have := hp.dvd_of_dvd_mul_right this
  exact mod_of_dvd hab this
 ·have : p ∣ (a - b) * c := by
   rw [Nat.sub_mul]; exact dvd_of_mod h.symm
  have := hp.dvd_of_dvd_mul_right this
  exact (mod_of_dvd hab this).symm

theorem prodF_coprime {p : Nat} (hp : Pr p) : ∀ n, n < p → Nat.Coprime p (prodF (fun i => i + 1) n)
 | 0, _ => by simp [prodF]
 | n + 1, h => by
  simp only [prodF]
  refine Nat.Coprime.mul_right (prodF_coprime hp n (by omega)) (hp.coprime fun hd => ?_)
  have := Nat.le_of_dvd (by omega) hd
  omega

theorem prodF_scale (p a : Nat) : ∀ n, prodF (fun i => a * (i + 1) % p) n % p = a ^ n * prodF (fun i => i + 1) n % p
 | 0 => by simp [prodF]
 | n + 1 => by
  simp only [prodF]
  rw [Nat.mul_mod, prodF_scale p a n, Nat.mod_mod, ← Nat.mul_mod, Nat.pow_succ]
  congr 1
  rw [Nat.mul_assoc, Nat.mul_assoc, Nat.mul_left_comm (prodF _ n) a]

theorem fermat {p a : Nat} (hp : Pr p) (ha : ¬ p ∣ a) : a ^ (p - 1) % p = 1 := by
 have hc := hp.coprime ha
 have h2 := hp.1
 have hne : ∀ i, i < p - 1 → a * (i + 1) % p ≠ 0 := fun i hi h0 => by
  rcases hp.mul (Nat.dvd_of_mod_eq_zero h0) with h | h
  ·exact ha h
  ·have := Nat.le_of_dvd (by omega) h; omega
 have hlt : ∀ x, x % p < p := fun x => Nat.mod_lt _ (by omega)
 have key := prodF_perm (fun i => i + 1) (p - 1) (fun i => a * (i + 1) % p - 1) (fun i hi => by
  have h1 := hne i hi
  have h3 := hlt (a * (i + 1))
  omega) (fun i j hi hj he => by
  have h1 := hne i hi
  have h3 := hne j hj
  have he : (i + 1) * a % p = (j + 1) * a % p := by rw [Nat.mul_comm _ a, Nat.mul_comm _ a]; omega
  have := mod_cancel hc he
  rw [Nat.mod_eq_of_lt (by omega), Nat.mod_eq_of_lt (by omega)] at this
  omega)
 rw [prodF_congr (p - 1) (g := fun i => a * (i + 1) % p) (fun i hi => by have := hne i hi; omega)] at key
 have h := prodF_scale p a (p - 1)
 rw [key] at h
 have h' : 1 * prodF (fun i => i + 1) (p - 1) % p = a ^ (p - 1) * prodF (fun i => i + 1) (p - 1) % p := by rw [Nat.one_mul]; exact h
 have := mod_cancel (prodF_coprime hp (p - 1) (by omega)) h'
 rw [← this, Nat.mod_eq_of_lt (by omega)]

theorem pow_mod_one {b r m : Nat} (h : b ^ m % r = 1 % r) (k : Nat) : b ^ (m * k) % r = 1 % r := by
 rw [Nat.pow_mul, Nat.pow_mod, h, ← Nat.pow_mod, Nat.one_pow]

theorem pow_gcd {b r : Nat} : ∀ (m n : Nat), b ^ m % r = 1 % r → b ^ n % r = 1 % r → b ^ (Nat.gcd m n) % r = 1 % r := by
 intro m n
 induction m, n using Nat.gcd.induction with
 | H0 n => intro _ h; simpa using h
 | H1 m n hm ih =>
  intro h1 h2
  rw [Nat.gcd_rec]
  refine ih ?_ h1
  have e : b ^ n = b ^ (m * (n / m)) * b ^ (n % m) := by rw [← Nat.pow_add, Nat.div_add_mod]
  rw [e, Nat.mul_mod, pow_mod_one h1, ← Nat.mul_mod, Nat.one_mul] at h2
  exact h2

theorem Pr.factor : ∀ (N : Nat), 2 ≤ N → ∃ r, Pr r ∧ r ∣ N := by
 intro N
 induction N using Nat.strongRecOn with
 | ind N ih =>
  intro h2
  by_cases hp : Pr N
  ·exact ⟨N, hp, Nat.dvd_refl N⟩
  ·have : ∃ d, d ∣ N ∧ d ≠ 1 ∧ d ≠ N := by
    apply Classical.byContradiction
    intro hn
    refine hp ⟨h2, fun d hd => ?_⟩
    apply Classical.byContradiction
    intro h
    exact hn ⟨d, hd, fun e => h (.inl e), fun e => h (.inr e)⟩
   obtain ⟨d, hd, h1, hN⟩ := this
   have hle := Nat.le_of_dvd (by omega) hd
   have h0 : d ≠ 0 := fun e => by subst e; have := Nat.eq_zero_of_zero_dvd hd; omega
   obtain ⟨r, hr, hrd⟩ := ih d (by omega) (by omega)
   exact ⟨r, hr, Nat.dvd_trans hrd hd⟩

theorem Pr.of_small {N : Nat} (h2 : 2 ≤ N) (h : ∀ r, Pr r → r ∣ N → ¬ r * r ≤ N) : Pr N := by
 refine ⟨h2, fun d hd => ?_⟩
 apply Classical.byContradiction
 intro hn
 obtain ⟨e, he⟩ := hd
 have key : ∀ a b : Nat, N = a * b → a ≠ 1 → a ≤ b → False := fun a b hab h1 hle => by
  have ha : a ≠ 0 := fun e => by subst e; simp at hab; omega
  obtain ⟨r, hr, hrd⟩ := Pr.factor a (by omega)
  have h3 := Nat.le_of_dvd (by omega) hrd
  refine h r hr (Nat.dvd_trans hrd ⟨b, hab⟩) ?_
  rw [hab]
  exact Nat.mul_le_mul h3 (Nat.le_trans h3 hle)
 rcases Nat.le_total d e with hle | hle
 ·exact key d e he (fun h => hn (.inl h)) hle
 ·refine key e d (by rw [Nat.mul_comm]; exact he) (fun h => hn (.inr ?_)) hle
  rw [h, Nat.mul_one] at he; exact he.symm

theorem cert {N r q c : Nat} (hr : Pr r) (hd : r ∣ N) (hq : Pr q) (h1 : c ^ q % N = 1) (hg : Nat.gcd (c - 1) N = 1) (_ : 1 ≤ c) : q ∣ r - 1 := by
 have hr2 := hr.1
 apply Classical.byContradiction
 intro hn
 have hco : Nat.gcd q (r - 1) = 1 := hq.coprime hn
 have hcq : c ^ q % r = 1 % r := by
  have : c ^ q % N % r = 1 % r := by rw [h1]
  rwa [Nat.mod_mod_of_dvd _ hd] at this
 have hrc : ¬ r ∣ c := fun h => by
  have h0 : c ^ q % r = 0 := Nat.mod_eq_zero_of_dvd (Nat.dvd_trans h (by
   obtain ⟨k, hk⟩ : ∃ k, q = k + 1 := ⟨q - 1, by have := hq.1; omega⟩
   rw [hk, Nat.pow_succ]; exact Nat.dvd_mul_left c (c ^ k)))
  rw [h0, Nat.mod_eq_of_lt (by omega)] at hcq
  cases hcq
 have hf := fermat hr hrc
 have h := pow_gcd q (r - 1) hcq (by rw [hf, Nat.mod_eq_of_lt (by omega)])
 rw [hco, Nat.pow_one] at h
 have hdc : r ∣ c - 1 := dvd_of_mod h.symm
 have := Nat.dvd_gcd hdc hd
 rw [hg] at this
 have := Nat.le_of_dvd (by omega) this
 omega

theorem pock {N F : Nat} (h2 : 2 ≤ N) (hF : N < F * F) (h : ∀ r, Pr r → r ∣ N → F ∣ r - 1) : Pr N := by
 refine Pr.of_small h2 fun r hr hd hle => ?_
 have h1 := hr.1
 have h3 := Nat.le_of_dvd (by omega) (h r hr hd)
 have h4 : F * F ≤ r * r := Nat.mul_le_mul (by omega) (by omega)
 omega

theorem mul_dvd {a b x : Nat} (h : Nat.gcd a b = 1) (ha : a ∣ x) (hb : b ∣ x) : a * b ∣ x := Nat.Coprime.mul_dvd_of_dvd_of_dvd h ha hb

def noDiv (N : Nat) : Nat → Nat → Bool
 | 0, _ => true
 | k + 1, d => match N % d with
  | 0 => false
  | _ => noDiv N k (d + 1)

theorem noDiv_spec {N : Nat} : ∀ (k d : Nat), noDiv N k d = true → ∀ x, d ≤ x → x < d + k → ¬ x ∣ N
 | 0, d, _, x, h1, h2 => by omega
 | k + 1, d, h, x, h1, h2 => by
  unfold noDiv at h
  split at h
  ·cases h
  ·rename_i hne
   by_cases hx : x = d
   ·subst hx
    intro hd
    exact hne (Nat.mod_eq_zero_of_dvd hd)
   ·exact noDiv_spec k (d + 1) h x (by omega) (by omega)

theorem Pr.of_trial {N k : Nat} (h2 : 2 ≤ N) (hk : N < (k + 2) * (k + 2)) (h : noDiv N k 2 = true) : Pr N := by
 refine Pr.of_small h2 fun r hr hd hle => ?_
 have h1 := hr.1
 have : r < k + 2 := by
  apply Classical.byContradiction
  intro hn
  have : (k + 2) * (k + 2) ≤ r * r := Nat.mul_le_mul (by omega) (by omega)
  omega
 exact noDiv_spec k 2 h r h1 (by omega) hd

def pmod (M x : Nat) : Nat → Nat → Nat
 | 0, _ => 1 % M
 | k + 1, e => match e % 2 with
  | 0 => pmod M x k (e / 2) * pmod M x k (e / 2) % M
  | _ => pmod M x k (e / 2) * pmod M x k (e / 2) % M * x % M

theorem pmod_eq (M x : Nat) : ∀ k e, e < 2 ^ k → pmod M x k e = x ^ e % M
 | 0, e, h => by
  have : e = 0 := by simpa using h
  subst this; rfl
 | k + 1, e, h => by
  have ih := pmod_eq M x k (e / 2) (by rw [Nat.pow_succ] at h; omega)
  unfold pmod
  rw [ih]
  generalize hq : e / 2 = q
  split
  ·rename_i h0
   have : e = q + q := by omega
   rw [this, Nat.pow_add, ← Nat.mul_mod]
  ·rename_i h0
   have h0 : ¬ e % 2 = 0 := h0
   have : e = q + q + 1 := by omega
   rw [this, Nat.pow_succ, Nat.pow_add, ← Nat.mul_mod, Nat.mul_mod (x ^ q * x ^ q % M) x, Nat.mod_mod, ← Nat.mul_mod]

theorem pow_of_pmod {M x e r : Nat} (k : Nat) (h : pmod M x k e = r) (hk : e < 2 ^ k) : x ^ e % M = r := by rw [← pmod_eq M x k e hk, h]

theorem certp {N r q c : Nat} (k : Nat) (hr : Pr r) (hd : r ∣ N) (hq : Pr q) (h1 : pmod N c k q = 1) (hk : q < 2 ^ k) (hg : Nat.gcd (c - 1) N = 1) (hc : 1 ≤ c) : q ∣ r - 1 :=
 cert hr hd hq (pow_of_pmod k h1 hk) hg hc

end Go.Nt

namespace Go.Nt

theorem pr_53 : Pr 53 := .of_trial (k := 7) (by decide) (by decide) (by kernel_rfl)
theorem pr_29 : Pr 29 := .of_trial (k := 5) (by decide) (by decide) (by kernel_rfl)
theorem pr_7 : Pr 7 := .of_trial (k := 2) (by decide) (by decide) (by kernel_rfl)
theorem pr_107590001 : Pr 107590001 := pock (F := 10759) (by decide) (by decide) fun r hr hd => (mul_dvd (a := 1537) (b := 7) (by kernel_rfl) (mul_dvd (a := 53) (b := 29) (by kernel_rfl) (certp (c := 26896163) 6 hr hd pr_53 (by kernel_rfl) (by decide) (by kernel_rfl) (by decide)) (certp (c := 68236646) 5 hr hd pr_29 (by kernel_rfl) (by decide) (by kernel_rfl) (by decide))) (certp (c := 95730224) 3 hr hd pr_7 (by kernel_rfl) (by decide) (by kernel_rfl) (by decide)))
theorem pr_20113 : Pr 20113 := .of_trial (k := 141) (by decide) (by decide) (by kernel_rfl)
theorem pr_1206781 : Pr 1206781 := pock (F := 20113) (by decide) (by decide) fun r hr hd => (certp (c := 78448) 15 hr hd pr_20113 (by kernel_rfl) (by decide) (by kernel_rfl) (by decide))
theorem pr_7240687 : Pr 7240687 := pock (F := 1206781) (by decide) (by decide) fun r hr hd => (certp (c := 64) 21 hr hd pr_1206781 (by kernel_rfl) (by decide) (by kernel_rfl) (by decide))
theorem pr_96557 : Pr 96557 := .of_trial (k := 310) (by decide) (by decide) (by kernel_rfl)
theorem prB8 : Pr 255515944373312847190720520512484175977 := pock (F := 75220367286300824659) (by decide) (by decide) fun r hr hd => (mul_dvd (a := 779025521570687) (b := 96557) (by kernel_rfl) (mul_dvd (a := 107590001) (b := 7240687) (by kernel_rfl) (certp (c := 82381214149343919061612748413412685903) 27 hr hd pr_107590001 (by kernel_rfl) (by decide) (by kernel_rfl) (by decide)) (certp (c := 111233916942653821000329437866037388564) 23 hr hd pr_7240687 (by kernel_rfl) (by decide) (by kernel_rfl) (by decide))) (certp (c := 47418180093458530687350227428022525796) 17 hr hd pr_96557 (by kernel_rfl) (by decide) (by kernel_rfl) (by decide)))
theorem prB9 : Pr 205115282021455665897114700593932402728804164701536103180137503955397371 := pock (F := 255515944373312847190720520512484175977) (by decide) (by decide) fun r hr hd => (certp (c := 53072002638256206696760401718638995221936714922431175139555783581918754) 128 hr hd prB8 (by kernel_rfl) (by decide) (by kernel_rfl) (by decide))
theorem prB10 : Pr 115792089237316195423570985008687907853269984665640564039457584007908834671663 := pock (F := 205115282021455665897114700593932402728804164701536103180137503955397371) (by decide) (by decide) fun r hr hd => (certp (c := 30133174243114333125352536507925183895021889065932097717961225114769139489296) 237 hr hd prB9 (by kernel_rfl) (by decide) (by kernel_rfl) (by decide))
theorem pr_1871 : Pr 1871 := .of_trial (k := 43) (by decide) (by decide) (by kernel_rfl)
theorem pr_1627771 : Pr 1627771 := pock (F := 1871) (by decide) (by decide) fun r hr hd => (certp (c := 910796) 11 hr hd pr_1871 (by kernel_rfl) (by decide) (by kernel_rfl) (by decide))
theorem pr_297159362677 : Pr 297159362677 := pock (F := 1627771) (by decide) (by decide) fun r hr hd => (certp (c := 114170894341) 21 hr hd pr_1627771 (by kernel_rfl) (by decide) (by kernel_rfl) (by decide))
theorem pr_28181 : Pr 28181 := .of_trial (k := 167) (by decide) (by decide) (by kernel_rfl)
theorem pr_545358713 : Pr 545358713 := pock (F := 28181) (by decide) (by decide) fun r hr hd => (certp (c := 420071726) 15 hr hd pr_28181 (by kernel_rfl) (by decide) (by kernel_rfl) (by decide))
theorem prB16 : Pr 29047611873442575647497758179 := pock (F := 162058447585428954701) (by decide) (by decide) fun r hr hd => (mul_dvd (a := 297159362677) (b := 545358713) (by kernel_rfl) (certp (c := 16062460713643416818883781819) 39 hr hd pr_297159362677 (by kernel_rfl) (by decide) (by kernel_rfl) (by decide)) (certp (c := 1548700731856248688196814844) 30 hr hd pr_545358713 (by kernel_rfl) (by decide) (by kernel_rfl) (by decide)))
theorem prB17 : Pr 341948486974166000522343609283189 := pock (F := 29047611873442575647497758179) (by decide) (by decide) fun r hr hd => (certp (c := 291782875431971620014836968593543) 95 hr hd prB16 (by kernel_rfl) (by decide) (by kernel_rfl) (by decide))
theorem pr_9349 : Pr 9349 := .of_trial (k := 96) (by decide) (by decide) (by kernel_rfl)
theorem pr_44706919 : Pr 44706919 := pock (F := 9349) (by decide) (by decide) fun r hr hd => (certp (c := 24793509) 14 hr hd pr_9349 (by kernel_rfl) (by decide) (by kernel_rfl) (by decide))
theorem pr_120233 : Pr 120233 := .of_trial (k := 346) (by decide) (by decide) (by kernel_rfl)
theorem prB21 : Pr 174723607534414371449 := pock (F := 5375246992127) (by decide) (by decide) fun r hr hd => (mul_dvd (a := 44706919) (b := 120233) (by kernel_rfl) (certp (c := 69188669156729060297) 26 hr hd pr_44706919 (by kernel_rfl) (by decide) (by kernel_rfl) (by decide)) (certp (c := 97784642313376440036) 17 hr hd pr_120233 (by kernel_rfl) (by decide) (by kernel_rfl) (by decide)))
theorem prB22 : Pr 115792089237316195423570985008687907852837564279074904382605163141518161494337 := pock (F := 59746473235060985162263246577491932178200490877270861) (by decide) (by decide) fun r hr hd => (mul_dvd (a := 341948486974166000522343609283189) (b := 174723607534414371449) (by kernel_rfl) (certp (c := 86644313145397489891193855759928671818841495415153161568930588450251036589538) 109 hr hd prB17 (by kernel_rfl) (by decide) (by kernel_rfl) (by decide)) (certp (c := 58138579787377535003503259606714116115479494849592057519620557805018937774448) 68 hr hd prB21 (by kernel_rfl) (by decide) (by kernel_rfl) (by decide)))

theorem prime_p : Pr 115792089237316195423570985008687907853269984665640564039457584007908834671663 := prB10
theorem prime_n : Pr 115792089237316195423570985008687907852837564279074904382605163141518161494337 := prB22

end Go.Nt
