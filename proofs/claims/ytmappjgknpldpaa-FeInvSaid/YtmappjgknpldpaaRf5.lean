import Derived.Test.YtmappjgknpldpaaRf4
import Derived.Test.YtmappjgknpldpaaFe6
import Derived.Test.YtmappjgknpldpaaWq
namespace Go.Ev

theorem and_two (n s : Nat) : n &&& 2 ^ s = (n.testBit s).toNat * 2 ^ s := by
  apply Nat.eq_of_testBit_eq
  intro i
  rw [Nat.testBit_and, Nat.testBit_two_pow]
  cases hb : n.testBit s with
  | true =>
    simp only [Bool.toNat_true, Nat.one_mul, Nat.testBit_two_pow]
    by_cases h : s = i
    · subst h; simp [hb]
    · simp [h]
  | false =>
    simp only [Bool.toNat_false, Nat.zero_mul, Nat.zero_testBit]
    by_cases h : s = i
    · subst h; simp [hb]
    · simp [h]

theorem wrap_u (x : Int) : IntKind.u64.wrap x = x % 18446744073709551616 := by
  have := wr_conc Con0 .u64 x
  simp only [wr, Sc.conc, Value.int.injEq, true_and] at this
  exact this.symm

theorem and_bit {z : Int} (hz : InU z) {s : Nat} (hs : s < 64) : ((IntKind.u64).wrap ((BitVec.ofInt (IntKind.u64).bits z &&& BitVec.ofInt (IntKind.u64).bits ((2 ^ s : Nat) : Int)).toNat : Int) != 0) = decide (z / 2 ^ s % 2 = 1) := by
  obtain ⟨n, rfl⟩ : ∃ n : Nat, z = n := ⟨z.toNat, by have := hz.1; omega⟩
  have hn : n < 2 ^ 64 := by have := hz.2; omega
  have h2 : 2 ^ s < 2 ^ 64 := Nat.pow_lt_pow_right (by omega) hs
  have e1 : (BitVec.ofInt (IntKind.u64).bits (n : Int) &&& BitVec.ofInt (IntKind.u64).bits ((2 ^ s : Nat) : Int)).toNat = n &&& 2 ^ s := by
    show (BitVec.ofInt 64 (n : Int) &&& BitVec.ofInt 64 ((2 ^ s : Nat) : Int)).toNat = _
    rw [BitVec.ofInt_natCast, BitVec.ofInt_natCast, BitVec.toNat_and, BitVec.toNat_ofNat, BitVec.toNat_ofNat, Nat.mod_eq_of_lt hn, Nat.mod_eq_of_lt h2]
  rw [e1, and_two, Nat.testBit_eq_decide_div_mod_eq]
  have hd : ((n : Int) / 2 ^ s % 2 = 1) ↔ (n / 2 ^ s % 2 = 1) := by
    have : (n : Int) / 2 ^ s % 2 = ((n / 2 ^ s % 2 : Nat) : Int) := by simp
    rw [this]; omega
  by_cases h : n / 2 ^ s % 2 = 1
  · rw [decide_eq_true (hd.2 h), decide_eq_true h]
    simp only [Bool.toNat_true, Nat.one_mul]
    have hp : 0 < 2 ^ s := Nat.pos_of_ne_zero (by simp)
    generalize 2 ^ s = P at *
    rw [wrap_u, Int.emod_eq_of_lt (by omega) (by omega)]
    simp only [bne_iff_ne, ne_eq]
    omega
  · rw [decide_eq_false (fun hh => h (hd.1 hh)), decide_eq_false h]
    simp only [Bool.toNat_false, Nat.zero_mul, wrap_u]
    rfl

theorem half_pow (s : Nat) : (2 ^ (s + 1) / 2 : Nat) = 2 ^ s := by rw [Nat.pow_succ]; omega

def PwO (D : MD) (x e0 e1 e2 e3 : Int) (k : Nat) (e : Env) (m : Mem) : Prop :=
  ∃ (i t0 t1 t2 t3 t4 : Nat), k = i ∧ i ≤ 4 ∧
    e = [(8, .one (.int .i64 ((i : Int) - 1))), (7, .one (.ptr (some (.loc 4 0)))), (6, .one (.ptr (some (.loc 3 0)))), (5, .one (.ptr (some (.loc 2 0)))), (4, .one (.ptr (some (.loc 1 0)))), (3, .one (.ptr (some (.loc 0 0))))] ∧
    m = [some ⟨dcells D, t0, 0, false⟩, some ⟨words x, t1, 0, false⟩, some ⟨[u e0, u e1, u e2, u e3], t2, 0, false⟩, some ⟨[u 0, u 0, u 0, u 0], t3, 0, false⟩, some ⟨words (pw D.M x (val e0 e1 e2 e3) (64 * i)), t4, 0, false⟩]

def PwN (D : MD) (x e0 e1 e2 e3 : Int) (q : Nat) (k : Nat) (e : Env) (m : Mem) : Prop :=
  ∃ (s t0 t1 t2 t3 t4 : Nat), k = s ∧ s ≤ 64 ∧
    e = [(9, .one (u ((2 ^ s / 2 : Nat) : Int))), (8, .one (.int .i64 ((q : Int)))), (7, .one (.ptr (some (.loc 4 0)))), (6, .one (.ptr (some (.loc 3 0)))), (5, .one (.ptr (some (.loc 2 0)))), (4, .one (.ptr (some (.loc 1 0)))), (3, .one (.ptr (some (.loc 0 0))))] ∧
    m = [some ⟨dcells D, t0, 0, false⟩, some ⟨words x, t1, 0, false⟩, some ⟨[u e0, u e1, u e2, u e3], t2, 0, false⟩, some ⟨[u 0, u 0, u 0, u 0], t3, 0, false⟩, some ⟨words (pw D.M x (val e0 e1 e2 e3) (64 * q + s)), t4, 0, false⟩]

theorem refPower_fn {D : MD} (hD : D.Ok) {x E : Int} (hx : InW x) (hE : InW E) : Fn PG f_ref03_Power [D.tv, W x, W E] (W (x ^ E.toNat % D.M)) := by
  obtain ⟨e0, e1, e2, e3, h0, h1, h2, h3, rfl⟩ := split4 hE
  simp only [W, words_val h0 h1 h2 h3]
  have hpw : ∀ n, InW (pw D.M x (val e0 e1 e2 e3) n) := fun n => hD.mod _
  refine fn_go h_ref03_Power rfl (by kernel_rfl) (fun _ => by kernel_rfl) rfl rfl fun W0 => ?_
  conv => whnf
  refine ⟨_, (refSmall_fn (n := 1) ⟨by omega, by omega⟩).2 _ _, rfl, ?_⟩
  conv => whnf
  refine .inr (loop_inv (gOk W0) (PwO D x e0 e1 e2 e3) ?_ ?_)
  · intro k e' m' hI
    obtain ⟨i, t0, t1, t2, t3, t4, rfl, hi, rfl, rfl⟩ := hI
    cases k with
    | zero =>
      conv => whnf
      have : pw D.M x (val e0 e1 e2 e3) (64 * 0) = x ^ (val e0 e1 e2 e3).toNat % D.M := by unfold pw; simp
      rw [← this]
      rfl
    | succ q =>
      have en : ((q + 1 : Nat) : Int) - 1 = q := by omega
      rw [en]
      conv => whnf
      refine .inr (loop_inv (gOk W0) (PwN D x e0 e1 e2 e3 q) ?_ ?_)
      · intro k e' m' hI
        obtain ⟨s, t0, t1, t2, t3, t4, rfl, hs, rfl, rfl⟩ := hI
        cases k with
        | zero =>
          conv => whnf
          have hw : wr .i64 ((q : Int) - 1) = .int .i64 ((q : Int) - 1) := by simp only [wr, i64_dec (s := q) (by omega)]
          refine ⟨q, _, _, Nat.lt_succ_self _, wk_of (by (repeat' apply And.intro) <;> first | trivial | rfl | exact congrArg (fun x => some (TV.one x)) hw) (by (repeat' apply And.intro) <;> first | trivial | rfl) (Nat.le_refl _) (Nat.le_refl _), ⟨q, t0, t1, t2, t3, t4, rfl, by omega, rfl, rfl⟩⟩
        | succ s =>
          have hr := hpw (64 * q + (s + 1))
          have hm := refMul_fn hD hr hr
          have hm2 := refMul_fn hD (hD.mod (pw D.M x (val e0 e1 e2 e3) (64 * q + (s + 1)) * pw D.M x (val e0 e1 e2 e3) (64 * q + (s + 1)))) hx
          have hbits := bit_word h0 h1 h2 h3 s (by omega)
          rw [half_pow]
          have hpos : decide (((2 ^ s : Nat) : Int) > 0) = true := decide_eq_true (by have : 0 < 2 ^ s := Nat.pos_of_ne_zero (by simp); generalize 2 ^ s = P at *; omega)
          have hq : wr .u64 ((((2 ^ s : Nat) : Int)).tdiv 2) = u ((2 ^ s / 2 : Nat) : Int) := by
            have hlt : 2 ^ s < 2 ^ 64 := Nat.pow_lt_pow_right (by omega) (by omega)
            generalize 2 ^ s = P at *
            simp only [wr, u]
            congr 1
            rw [Int.tdiv_eq_ediv_of_nonneg (by omega)]
            omega
          conv => whnf
          rw [hpos]
          conv => whnf
          obtain rfl | rfl | rfl | rfl : q = 0 ∨ q = 1 ∨ q = 2 ∨ q = 3 := by omega
          · have hbv : val e0 e1 e2 e3 / 2 ^ (64 * 0 + s) % 2 = e0 / 2 ^ s % 2 := by
              rw [show 64 * 0 + s = s by omega]
              exact hbits.1
            refine ⟨_, hm.2 _ _, rfl, ?_⟩
            conv => whnf
            rw [and_bit h0 (by omega)]
            split
            · rename_i hbt
              have hbit : val e0 e1 e2 e3 / 2 ^ (64 * 0 + s) % 2 = 1 := by rw [hbv]; exact of_decide_eq_true hbt
              have hps := pw_step (M := D.M) (x := x) hE.1 _ hbit
              conv => whnf
              refine ⟨_, hm2.2 _ _, rfl, ?_⟩
              conv => whnf
              rw [show 64 * 0 + (s + 1) = 64 * 0 + s + 1 from rfl, hps]
              refine ⟨s, _, _, Nat.lt_succ_self _, wk_of (by (repeat' apply And.intro) <;> first | trivial | rfl | exact congrArg (fun x => some (TV.one x)) hq) (by (repeat' apply And.intro) <;> first | trivial | rfl) (Nat.le_refl _) (Nat.le_refl _), ⟨s, t0, t1, t2, t3, t4, rfl, by omega, rfl, rfl⟩⟩
            · rename_i hbt
              have hbit : val e0 e1 e2 e3 / 2 ^ (64 * 0 + s) % 2 = 0 := by
                have := of_decide_eq_false hbt
                rw [hbv]; omega
              have hps := pw_skip (M := D.M) (x := x) hE.1 _ hbit
              conv => whnf
              rw [show 64 * 0 + (s + 1) = 64 * 0 + s + 1 from rfl, hps]
              refine ⟨s, _, _, Nat.lt_succ_self _, wk_of (by (repeat' apply And.intro) <;> first | trivial | rfl | exact congrArg (fun x => some (TV.one x)) hq) (by (repeat' apply And.intro) <;> first | trivial | rfl) (Nat.le_refl _) (Nat.le_refl _), ⟨s, t0, t1, t2, t3, t4, rfl, by omega, rfl, rfl⟩⟩
          · have hbv : val e0 e1 e2 e3 / 2 ^ (64 * 1 + s) % 2 = e1 / 2 ^ s % 2 := by
              rw [show 64 * 1 + s = 64 + s by omega]
              exact hbits.2.1
            refine ⟨_, hm.2 _ _, rfl, ?_⟩
            conv => whnf
            rw [and_bit h1 (by omega)]
            split
            · rename_i hbt
              have hbit : val e0 e1 e2 e3 / 2 ^ (64 * 1 + s) % 2 = 1 := by rw [hbv]; exact of_decide_eq_true hbt
              have hps := pw_step (M := D.M) (x := x) hE.1 _ hbit
              conv => whnf
              refine ⟨_, hm2.2 _ _, rfl, ?_⟩
              conv => whnf
              rw [show 64 * 1 + (s + 1) = 64 * 1 + s + 1 from rfl, hps]
              refine ⟨s, _, _, Nat.lt_succ_self _, wk_of (by (repeat' apply And.intro) <;> first | trivial | rfl | exact congrArg (fun x => some (TV.one x)) hq) (by (repeat' apply And.intro) <;> first | trivial | rfl) (Nat.le_refl _) (Nat.le_refl _), ⟨s, t0, t1, t2, t3, t4, rfl, by omega, rfl, rfl⟩⟩
            · rename_i hbt
              have hbit : val e0 e1 e2 e3 / 2 ^ (64 * 1 + s) % 2 = 0 := by
                have := of_decide_eq_false hbt
                rw [hbv]; omega
              have hps := pw_skip (M := D.M) (x := x) hE.1 _ hbit
              conv => whnf
              rw [show 64 * 1 + (s + 1) = 64 * 1 + s + 1 from rfl, hps]
              refine ⟨s, _, _, Nat.lt_succ_self _, wk_of (by (repeat' apply And.intro) <;> first | trivial | rfl | exact congrArg (fun x => some (TV.one x)) hq) (by (repeat' apply And.intro) <;> first | trivial | rfl) (Nat.le_refl _) (Nat.le_refl _), ⟨s, t0, t1, t2, t3, t4, rfl, by omega, rfl, rfl⟩⟩
          · have hbv : val e0 e1 e2 e3 / 2 ^ (64 * 2 + s) % 2 = e2 / 2 ^ s % 2 := by
              rw [show 64 * 2 + s = 128 + s by omega]
              exact hbits.2.2.1
            refine ⟨_, hm.2 _ _, rfl, ?_⟩
            conv => whnf
            rw [and_bit h2 (by omega)]
            split
            · rename_i hbt
              have hbit : val e0 e1 e2 e3 / 2 ^ (64 * 2 + s) % 2 = 1 := by rw [hbv]; exact of_decide_eq_true hbt
              have hps := pw_step (M := D.M) (x := x) hE.1 _ hbit
              conv => whnf
              refine ⟨_, hm2.2 _ _, rfl, ?_⟩
              conv => whnf
              rw [show 64 * 2 + (s + 1) = 64 * 2 + s + 1 from rfl, hps]
              refine ⟨s, _, _, Nat.lt_succ_self _, wk_of (by (repeat' apply And.intro) <;> first | trivial | rfl | exact congrArg (fun x => some (TV.one x)) hq) (by (repeat' apply And.intro) <;> first | trivial | rfl) (Nat.le_refl _) (Nat.le_refl _), ⟨s, t0, t1, t2, t3, t4, rfl, by omega, rfl, rfl⟩⟩
            · rename_i hbt
              have hbit : val e0 e1 e2 e3 / 2 ^ (64 * 2 + s) % 2 = 0 := by
                have := of_decide_eq_false hbt
                rw [hbv]; omega
              have hps := pw_skip (M := D.M) (x := x) hE.1 _ hbit
              conv => whnf
              rw [show 64 * 2 + (s + 1) = 64 * 2 + s + 1 from rfl, hps]
              refine ⟨s, _, _, Nat.lt_succ_self _, wk_of (by (repeat' apply And.intro) <;> first | trivial | rfl | exact congrArg (fun x => some (TV.one x)) hq) (by (repeat' apply And.intro) <;> first | trivial | rfl) (Nat.le_refl _) (Nat.le_refl _), ⟨s, t0, t1, t2, t3, t4, rfl, by omega, rfl, rfl⟩⟩
          · have hbv : val e0 e1 e2 e3 / 2 ^ (64 * 3 + s) % 2 = e3 / 2 ^ s % 2 := by
              rw [show 64 * 3 + s = 192 + s by omega]
              exact hbits.2.2.2
            refine ⟨_, hm.2 _ _, rfl, ?_⟩
            conv => whnf
            rw [and_bit h3 (by omega)]
            split
            · rename_i hbt
              have hbit : val e0 e1 e2 e3 / 2 ^ (64 * 3 + s) % 2 = 1 := by rw [hbv]; exact of_decide_eq_true hbt
              have hps := pw_step (M := D.M) (x := x) hE.1 _ hbit
              conv => whnf
              refine ⟨_, hm2.2 _ _, rfl, ?_⟩
              conv => whnf
              rw [show 64 * 3 + (s + 1) = 64 * 3 + s + 1 from rfl, hps]
              refine ⟨s, _, _, Nat.lt_succ_self _, wk_of (by (repeat' apply And.intro) <;> first | trivial | rfl | exact congrArg (fun x => some (TV.one x)) hq) (by (repeat' apply And.intro) <;> first | trivial | rfl) (Nat.le_refl _) (Nat.le_refl _), ⟨s, t0, t1, t2, t3, t4, rfl, by omega, rfl, rfl⟩⟩
            · rename_i hbt
              have hbit : val e0 e1 e2 e3 / 2 ^ (64 * 3 + s) % 2 = 0 := by
                have := of_decide_eq_false hbt
                rw [hbv]; omega
              have hps := pw_skip (M := D.M) (x := x) hE.1 _ hbit
              conv => whnf
              rw [show 64 * 3 + (s + 1) = 64 * 3 + s + 1 from rfl, hps]
              refine ⟨s, _, _, Nat.lt_succ_self _, wk_of (by (repeat' apply And.intro) <;> first | trivial | rfl | exact congrArg (fun x => some (TV.one x)) hq) (by (repeat' apply And.intro) <;> first | trivial | rfl) (Nat.le_refl _) (Nat.le_refl _), ⟨s, t0, t1, t2, t3, t4, rfl, by omega, rfl, rfl⟩⟩
      · refine ⟨64, _, _, wk_of (by (repeat' apply And.intro) <;> first | trivial | rfl) (by (repeat' apply And.intro) <;> first | trivial | rfl) (Nat.le_refl _) (Nat.le_refl _), ⟨64, t0, t1, t2, t3, t4, rfl, by omega, rfl, rfl⟩⟩
  · have h256 : pw D.M x (val e0 e1 e2 e3) (64 * 4) = 1 := by
      unfold pw
      have p256 : (2 : Int) ^ (64 * 4) = 115792089237316195423570985008687907853269984665640564039457584007913129639936 := by decide
      have : val e0 e1 e2 e3 / 2 ^ (64 * 4) = 0 := Int.ediv_eq_zero_of_lt hE.1 (by rw [p256]; exact hE.2)
      rw [this]
      show x ^ 0 % D.M = 1
      rw [Int.pow_zero]
      exact Int.emod_eq_of_lt (by omega) (by have := hD.big; omega)
    refine ⟨4, _, _, wk_of (by (repeat' apply And.intro) <;> first | trivial | rfl) (by (repeat' apply And.intro) <;> first | trivial | rfl) (Nat.le_refl _) (Nat.le_refl _), ⟨4, _, _, _, _, _, rfl, by omega, rfl, by rw [h256]; rfl⟩⟩
end Go.Ev
