import Derived.Test.YtmappjgknpldpaaFe5
namespace Go.Ev

/-- A power modulo p, as far as the bits from n on say. -/
def pw (M x E : Int) (n : Nat) : Int := x ^ (E / 2 ^ n).toNat % M

theorem pw_step {M x E : Int} (hE : 0 ≤ E) (n : Nat) (h : E / 2 ^ n % 2 = 1) : pw M x E (n + 1) * pw M x E (n + 1) % M * x % M = pw M x E n := by
  unfold pw
  have h0 : 0 ≤ E / 2 ^ n := Int.ediv_nonneg hE (Int.le_of_lt (Int.pow_pos (by omega)))
  have h1 : E / 2 ^ (n + 1) = E / 2 ^ n / 2 := by
    rw [Int.pow_succ, ← Int.ediv_ediv_of_nonneg (Int.le_of_lt (Int.pow_pos (by omega)))]
  have h2 : (E / 2 ^ n).toNat = (E / 2 ^ (n + 1)).toNat + (E / 2 ^ (n + 1)).toNat + 1 := by rw [h1]; omega
  rw [h2]
  generalize (E / 2 ^ (n + 1)).toNat = k
  rw [Int.pow_succ, Int.pow_add, ← Int.mul_emod, Int.mul_emod (x ^ k * x ^ k % M) x, Int.emod_emod_of_dvd _ (Int.dvd_refl _), ← Int.mul_emod]

theorem pw_skip {M x E : Int} (hE : 0 ≤ E) (n : Nat) (h : E / 2 ^ n % 2 = 0) : pw M x E (n + 1) * pw M x E (n + 1) % M = pw M x E n := by
  unfold pw
  have h0 : 0 ≤ E / 2 ^ n := Int.ediv_nonneg hE (Int.le_of_lt (Int.pow_pos (by omega)))
  have h1 : E / 2 ^ (n + 1) = E / 2 ^ n / 2 := by
    rw [Int.pow_succ, ← Int.ediv_ediv_of_nonneg (Int.le_of_lt (Int.pow_pos (by omega)))]
  have h2 : (E / 2 ^ n).toNat = (E / 2 ^ (n + 1)).toNat + (E / 2 ^ (n + 1)).toNat := by rw [h1]; omega
  rw [h2]
  generalize (E / 2 ^ (n + 1)).toNat = k
  rw [Int.pow_add, ← Int.mul_emod]

theorem shr_s (z : Int) {s : Nat} (hs : s < 64) : z.fdiv (2 ^ min (Int.toNat (s : Int)) (IntKind.u64).bits) = z / 2 ^ s := by
  have : min (Int.toNat (s : Int)) (IntKind.u64).bits = s := by
    show min (Int.toNat (s : Int)) 64 = s
    omega
  rw [this]
  exact Int.fdiv_eq_ediv_of_nonneg z (Int.le_of_lt (Int.pow_pos (by omega)))

theorem shr_in {z : Int} (hz : InU z) (s : Nat) : InU (z / 2 ^ s) := by
  have hp : (0 : Int) < 2 ^ s := Int.pow_pos (by omega)
  refine ⟨Int.ediv_nonneg hz.1 (Int.le_of_lt hp), ?_⟩
  have := Int.ediv_le_self (2 ^ s) hz.1
  omega

theorem i64_dec {s : Nat} (h : s < 1000) : IntKind.i64.wrap ((s : Int) - 1) = (s : Int) - 1 := by
  simp only [IntKind.wrap, IntKind.signed, IntKind.bits]
  simp
  omega

def PowI (x e0 e1 e2 e3 : Int) (k : Nat) (e : Env) (m : Mem) : Prop :=
  ∃ (n : Nat) (t0 t1 t2 t3 : Nat), k = n ∧ n ≤ 256 ∧
    e = [(6, .one (.int .i64 ((n : Int) - 1))), (5, .one (.ptr (some (.loc 3 0)))), (4, .one (.ptr (some (.loc 2 0)))), (3, .one (.ptr (some (.loc 1 0)))), (2, .one (.ptr (some (.loc 0 0))))] ∧
    m = [some ⟨words x, t0, 0, false⟩, some ⟨[u e0, u e1, u e2, u e3], t1, 0, false⟩, some ⟨[u 0, u 0, u 0, u 0], t2, 0, false⟩, some ⟨words (pw pp x (val e0 e1 e2 e3) n), t3, 0, false⟩]

theorem power_fn {x E : Int} (hx : InW x) (hE : InW E) : Fn PG f_fe_power [W x, W E] (W (x ^ E.toNat % pp)) := by
  obtain ⟨e0, e1, e2, e3, h0, h1, h2, h3, rfl⟩ := split4 hE
  simp only [W, words_val h0 h1 h2 h3]
  refine fn_go h_fe_power rfl (by kernel_rfl) (fun _ => by kernel_rfl) rfl rfl fun W0 => ?_
  conv => whnf
  refine ⟨_, (feOf_fn (n := 1) ⟨by omega, by omega⟩).2 _ _, rfl, ?_⟩
  conv => whnf
  refine .inr (loop_inv (gOk W0) (PowI x e0 e1 e2 e3) ?_ ?_)
  · intro k e' m' hI
    obtain ⟨n, t0, t1, t2, t3, rfl, hn, rfl, rfl⟩ := hI
    cases k with
    | zero =>
      conv => whnf
      have : pw pp x (val e0 e1 e2 e3) 0 = x ^ (val e0 e1 e2 e3).toNat % pp := by unfold pw; simp
      rw [← this]
      rfl
    | succ n =>
      have en : ((n + 1 : Nat) : Int) - 1 = n := by omega
      rw [en]
      have hr : InW (pw pp x (val e0 e1 e2 e3) (n + 1)) := by unfold pw pp; exact ⟨by omega, by omega⟩
      have hr2 : InW (pw pp x (val e0 e1 e2 e3) (n + 1) * pw pp x (val e0 e1 e2 e3) (n + 1) % pp) := by unfold pp; exact ⟨by omega, by omega⟩
      conv => whnf
      refine ⟨_, (feMul_fn hr hr).2 _ _, rfl, ?_⟩
      have hq : ∃ q s : Nat, q < 4 ∧ s < 64 ∧ n = 64 * q + s := ⟨n / 64, n % 64, by omega, by omega, by omega⟩
      obtain ⟨q, s, hq4, hs, rfl⟩ := hq
      have hdiv : IntKind.i64.wrap (Int.tdiv ((64 * q + s : Nat) : Int) 64) = q := by
        have : Int.tdiv ((64 * q + s : Nat) : Int) 64 = q := by
          rw [Int.tdiv_eq_ediv_of_nonneg (by omega)]; omega
        rw [this]
        simp only [IntKind.wrap, IntKind.signed, IntKind.bits]
        simp
        omega
      have hmod : Int.tmod ((64 * q + s : Nat) : Int) 64 = s := by
        rw [Int.tmod_eq_emod_of_nonneg (by omega)]; omega
      have hbits := bit_word h0 h1 h2 h3 s hs
      have hw : wr .i64 (((64 * q + s : Nat) : Int) - 1) = .int .i64 (((64 * q + s : Nat) : Int) - 1) := by
        simp only [wr, i64_dec (s := 64 * q + s) (by omega)]
      conv => whnf
      obtain rfl | rfl | rfl | rfl : q = 0 ∨ q = 1 ∨ q = 2 ∨ q = 3 := by omega
      · have hbv : val e0 e1 e2 e3 / 2 ^ (64 * 0 + s) % 2 = e0 / 2 ^ s % 2 := by
          rw [show 64 * 0 + s = s by omega]
          exact hbits.1
        rw [hdiv]
        conv => whnf
        rw [hmod, shr_s e0 hs, and1 (shr_in h0 s).1 (shr_in h0 s).2]
        split
        · rename_i hb
          have hbit : val e0 e1 e2 e3 / 2 ^ (64 * 0 + s) % 2 = 1 := by rw [hbv]; simpa using hb
          conv => whnf
          refine ⟨_, (feMul_fn hr2 hx).2 _ _, rfl, ?_⟩
          conv => whnf
          rw [pw_step hE.1 _ hbit]
          refine ⟨64 * 0 + s, _, _, Nat.lt_succ_self _, wk_of (by (repeat' apply And.intro) <;> first | trivial | rfl | exact congrArg (fun x => some (TV.one x)) hw) (by (repeat' apply And.intro) <;> first | trivial | rfl) (Nat.le_refl _) (Nat.le_refl _), ⟨64 * 0 + s, t0, t1, t2, t3, rfl, by omega, rfl, rfl⟩⟩
        · rename_i hb
          have hbit : val e0 e1 e2 e3 / 2 ^ (64 * 0 + s) % 2 = 0 := by
            have hb : ¬ e0 / 2 ^ s % 2 = 1 := by simpa using hb
            omega
          conv => whnf
          rw [pw_skip hE.1 _ hbit]
          refine ⟨64 * 0 + s, _, _, Nat.lt_succ_self _, wk_of (by (repeat' apply And.intro) <;> first | trivial | rfl | exact congrArg (fun x => some (TV.one x)) hw) (by (repeat' apply And.intro) <;> first | trivial | rfl) (Nat.le_refl _) (Nat.le_refl _), ⟨64 * 0 + s, t0, t1, t2, t3, rfl, by omega, rfl, rfl⟩⟩
      · have hbv : val e0 e1 e2 e3 / 2 ^ (64 * 1 + s) % 2 = e1 / 2 ^ s % 2 := by
          rw [show 64 * 1 + s = 64 + s by omega]
          exact hbits.2.1
        rw [hdiv]
        conv => whnf
        rw [hmod, shr_s e1 hs, and1 (shr_in h1 s).1 (shr_in h1 s).2]
        split
        · rename_i hb
          have hbit : val e0 e1 e2 e3 / 2 ^ (64 * 1 + s) % 2 = 1 := by rw [hbv]; simpa using hb
          conv => whnf
          refine ⟨_, (feMul_fn hr2 hx).2 _ _, rfl, ?_⟩
          conv => whnf
          rw [pw_step hE.1 _ hbit]
          refine ⟨64 * 1 + s, _, _, Nat.lt_succ_self _, wk_of (by (repeat' apply And.intro) <;> first | trivial | rfl | exact congrArg (fun x => some (TV.one x)) hw) (by (repeat' apply And.intro) <;> first | trivial | rfl) (Nat.le_refl _) (Nat.le_refl _), ⟨64 * 1 + s, t0, t1, t2, t3, rfl, by omega, rfl, rfl⟩⟩
        · rename_i hb
          have hbit : val e0 e1 e2 e3 / 2 ^ (64 * 1 + s) % 2 = 0 := by
            have hb : ¬ e1 / 2 ^ s % 2 = 1 := by simpa using hb
            omega
          conv => whnf
          rw [pw_skip hE.1 _ hbit]
          refine ⟨64 * 1 + s, _, _, Nat.lt_succ_self _, wk_of (by (repeat' apply And.intro) <;> first | trivial | rfl | exact congrArg (fun x => some (TV.one x)) hw) (by (repeat' apply And.intro) <;> first | trivial | rfl) (Nat.le_refl _) (Nat.le_refl _), ⟨64 * 1 + s, t0, t1, t2, t3, rfl, by omega, rfl, rfl⟩⟩
      · have hbv : val e0 e1 e2 e3 / 2 ^ (64 * 2 + s) % 2 = e2 / 2 ^ s % 2 := by
          rw [show 64 * 2 + s = 128 + s by omega]
          exact hbits.2.2.1
        rw [hdiv]
        conv => whnf
        rw [hmod, shr_s e2 hs, and1 (shr_in h2 s).1 (shr_in h2 s).2]
        split
        · rename_i hb
          have hbit : val e0 e1 e2 e3 / 2 ^ (64 * 2 + s) % 2 = 1 := by rw [hbv]; simpa using hb
          conv => whnf
          refine ⟨_, (feMul_fn hr2 hx).2 _ _, rfl, ?_⟩
          conv => whnf
          rw [pw_step hE.1 _ hbit]
          refine ⟨64 * 2 + s, _, _, Nat.lt_succ_self _, wk_of (by (repeat' apply And.intro) <;> first | trivial | rfl | exact congrArg (fun x => some (TV.one x)) hw) (by (repeat' apply And.intro) <;> first | trivial | rfl) (Nat.le_refl _) (Nat.le_refl _), ⟨64 * 2 + s, t0, t1, t2, t3, rfl, by omega, rfl, rfl⟩⟩
        · rename_i hb
          have hbit : val e0 e1 e2 e3 / 2 ^ (64 * 2 + s) % 2 = 0 := by
            have hb : ¬ e2 / 2 ^ s % 2 = 1 := by simpa using hb
            omega
          conv => whnf
          rw [pw_skip hE.1 _ hbit]
          refine ⟨64 * 2 + s, _, _, Nat.lt_succ_self _, wk_of (by (repeat' apply And.intro) <;> first | trivial | rfl | exact congrArg (fun x => some (TV.one x)) hw) (by (repeat' apply And.intro) <;> first | trivial | rfl) (Nat.le_refl _) (Nat.le_refl _), ⟨64 * 2 + s, t0, t1, t2, t3, rfl, by omega, rfl, rfl⟩⟩
      · have hbv : val e0 e1 e2 e3 / 2 ^ (64 * 3 + s) % 2 = e3 / 2 ^ s % 2 := by
          rw [show 64 * 3 + s = 192 + s by omega]
          exact hbits.2.2.2
        rw [hdiv]
        conv => whnf
        rw [hmod, shr_s e3 hs, and1 (shr_in h3 s).1 (shr_in h3 s).2]
        split
        · rename_i hb
          have hbit : val e0 e1 e2 e3 / 2 ^ (64 * 3 + s) % 2 = 1 := by rw [hbv]; simpa using hb
          conv => whnf
          refine ⟨_, (feMul_fn hr2 hx).2 _ _, rfl, ?_⟩
          conv => whnf
          rw [pw_step hE.1 _ hbit]
          refine ⟨64 * 3 + s, _, _, Nat.lt_succ_self _, wk_of (by (repeat' apply And.intro) <;> first | trivial | rfl | exact congrArg (fun x => some (TV.one x)) hw) (by (repeat' apply And.intro) <;> first | trivial | rfl) (Nat.le_refl _) (Nat.le_refl _), ⟨64 * 3 + s, t0, t1, t2, t3, rfl, by omega, rfl, rfl⟩⟩
        · rename_i hb
          have hbit : val e0 e1 e2 e3 / 2 ^ (64 * 3 + s) % 2 = 0 := by
            have hb : ¬ e3 / 2 ^ s % 2 = 1 := by simpa using hb
            omega
          conv => whnf
          rw [pw_skip hE.1 _ hbit]
          refine ⟨64 * 3 + s, _, _, Nat.lt_succ_self _, wk_of (by (repeat' apply And.intro) <;> first | trivial | rfl | exact congrArg (fun x => some (TV.one x)) hw) (by (repeat' apply And.intro) <;> first | trivial | rfl) (Nat.le_refl _) (Nat.le_refl _), ⟨64 * 3 + s, t0, t1, t2, t3, rfl, by omega, rfl, rfl⟩⟩
  · have h256 : pw pp x (val e0 e1 e2 e3) 256 = 1 := by
      unfold pw
      have p256 : (2 : Int) ^ 256 = 115792089237316195423570985008687907853269984665640564039457584007913129639936 := by decide
      have : val e0 e1 e2 e3 / 2 ^ 256 = 0 := Int.ediv_eq_zero_of_lt hE.1 (by rw [p256]; exact hE.2)
      rw [this]
      show x ^ 0 % pp = 1
      rw [Int.pow_zero]
      decide
    refine ⟨256, _, _, wk_of (by (repeat' apply And.intro) <;> first | trivial | rfl) (by (repeat' apply And.intro) <;> first | trivial | rfl) (Nat.le_refl _) (Nat.le_refl _), ⟨256, _, _, _, _, rfl, by omega, rfl, by rw [h256]; rfl⟩⟩
theorem feInv_fn {x : Int} (hx : InW x) : Fn PG f_fe_Inv [W x] (W (x ^ (pp - 2).toNat % pp)) := by
  refine fn_go h_fe_Inv rfl (by kernel_rfl) (fun _ => by kernel_rfl) rfl rfl fun W0 => ?_
  conv => whnf
  refine ⟨_, prime_fn.2 _ _, rfl, ?_⟩
  conv => whnf
  refine ⟨_, (feOf_fn (n := 2) ⟨by omega, by omega⟩).2 _ _, rfl, ?_⟩
  conv => whnf
  have h2 : InW pp := by unfold pp; exact ⟨by omega, by omega⟩
  refine ⟨_, (minus_fn (y := 2) h2 ⟨by omega, by omega⟩).2 _ _, rfl, ?_⟩
  conv => whnf
  have e1 : (pp - 2) % 115792089237316195423570985008687907853269984665640564039457584007913129639936 = pp - 2 := by unfold pp; omega
  rw [e1]
  refine ⟨_, (power_fn (E := pp - 2) hx (by unfold pp; exact ⟨by omega, by omega⟩)).2 _ _, rfl, ?_⟩
  conv => whnf
  rfl

theorem feOdd_fn {x : Int} (hx : InW x) : Fn PG f_fe_Odd [W x] (.one (.bool (decide (x % pp % 2 = 1)))) := by
  refine fn_go h_fe_Odd rfl (by kernel_rfl) (fun _ => by kernel_rfl) rfl rfl fun W0 => ?_
  conv => whnf
  refine ⟨_, (norm_fn hx).2 _ _, rfl, ?_⟩
  conv => whnf
  have e : x % pp % 18446744073709551616 % 2 = x % pp % 2 := by omega
  rw [and1 (by omega) (by omega), e]
  show TV.one (.bool (x % pp % 2 == 1)) = _
  congr 2

theorem cast_args {P : Program} {W0 : World} {f : FuncId} {A B : List TV} {m : Mem} {K : TV → Mem → Prop} (h : A = B) (hc : CALL P W0 f B m K) : CALL P W0 f A m K := h ▸ hc

/-- The square root modulo p that the exponent (p + 1) / 4 gives. -/
def rootP (x : Int) : Int := x ^ ((pp + 1) / 4).toNat % pp

def sqrtP (x : Int) : Int × Bool :=
  if rootP x * rootP x % pp = x % pp then (if rootP x % 2 = 1 then -rootP x % pp else rootP x, true) else (0, false)

theorem feSqrt_fn {x : Int} (hx : InW x) : Fn PG f_fe_Sqrt [W x] (.tup [.agg (words (sqrtP x).1), .one (.bool (sqrtP x).2)]) := by
  refine fn_go h_fe_Sqrt rfl (by kernel_rfl) (fun _ => by kernel_rfl) rfl rfl fun W0 => ?_
  conv => whnf
  refine ⟨_, prime_fn.2 _ _, rfl, ?_⟩
  conv => whnf
  refine ⟨_, (feOf_fn (n := 1) ⟨by omega, by omega⟩).2 _ _, rfl, ?_⟩
  conv => whnf
  have h2 : InW pp := by unfold pp; exact ⟨by omega, by omega⟩
  refine ⟨_, (plus_fn (y := 1) h2 ⟨by omega, by omega⟩).2 _ _, rfl, ?_⟩
  conv => whnf
  refine .inl ⟨5, ?_⟩
  conv => whnf
  refine ⟨_, cast_args (B := [W x, W ((pp + 1) / 4)]) (by kernel_rfl) ((power_fn (E := (pp + 1) / 4) hx (by unfold pp; exact ⟨by omega, by omega⟩)).2 _ _), rfl, ?_⟩
  have hr : x ^ ((pp + 1) / 4).toNat % pp = rootP x := rfl
  rw [hr]
  have hrw : InW (rootP x) := by rw [← hr]; unfold pp; exact ⟨by omega, by omega⟩
  conv => whnf
  refine ⟨_, (feMul_fn hrw hrw).2 _ _, rfl, ?_⟩
  conv => whnf
  refine ⟨_, (norm_fn hx).2 _ _, rfl, ?_⟩
  conv => whnf
  have hm : ∀ z : Int, InW (z % pp) := fun z => by unfold pp; exact ⟨by omega, by omega⟩
  rw [weq (hm _) (hm _)]
  unfold sqrtP
  split
  · rename_i h
    have h : ¬ (rootP x * rootP x % pp = x % pp) := by simpa using h
    rw [if_neg h]
    conv => whnf
    rfl
  · rename_i h
    have h : rootP x * rootP x % pp = x % pp := by simpa using h
    rw [if_pos h]
    conv => whnf
    refine ⟨_, (feOdd_fn hrw).2 _ _, rfl, ?_⟩
    conv => whnf
    have e : rootP x % pp = rootP x := by unfold rootP; exact Int.emod_emod_of_dvd _ (Int.dvd_refl _)
    rw [e]
    split
    · rename_i h2
      have h2 := of_decide_eq_true h2
      rw [if_pos h2]
      conv => whnf
      refine ⟨_, (feNeg_fn hrw).2 _ _, rfl, ?_⟩
      conv => whnf
      rfl
    · rename_i h2
      have h2 := of_decide_eq_false h2
      rw [if_neg h2]
      conv => whnf
      rfl

end Go.Ev
