import Derived.Test.YtmappjgknpldpaaSc4
import Derived.Test.YtmappjgknpldpaaFeA
namespace Go.Ev

def ScI (x e0 e1 e2 e3 : Int) (k : Nat) (e : Env) (m : Mem) : Prop :=
  ∃ (n : Nat) (t0 t1 t2 t3 : Nat), k = n ∧ n ≤ 256 ∧
    e = [(6, .one (.int .i64 ((n : Int) - 1))), (5, .one (.ptr (some (.loc 3 0)))), (3, .one (.ptr (some (.loc 2 0)))), (2, .one (.ptr (some (.loc 1 0)))), (1, .one (.ptr (some (.loc 0 0))))] ∧
    m = [some ⟨words x, t0, 0, false⟩, some ⟨[u 0, u 0, u 0, u 0], t1, 0, false⟩, some ⟨[u e0, u e1, u e2, u e3], t2, 0, false⟩, some ⟨words (pw nn x (val e0 e1 e2 e3) n), t3, 0, false⟩]

theorem scInv_fn {x : Int} (hx : InW x) : Fn PG f_scalar_Inv [W x] (W (x ^ (nn - 2).toNat % nn)) := by
  obtain ⟨e0, e1, e2, e3, h0, h1, h2, h3, hEe⟩ := split4 (x := nn - 2) (by unfold nn; exact ⟨by omega, by omega⟩)
  have hN : InW nn := by unfold nn; exact ⟨by omega, by omega⟩
  have hmin := scMinus_fn (y := 2) hN ⟨by omega, by omega⟩
  have em : (nn - 2) % 115792089237316195423570985008687907853269984665640564039457584007913129639936 = nn - 2 := by unfold nn; omega
  rw [em] at hmin
  have hE : InW (val e0 e1 e2 e3) := by rw [← hEe]; unfold nn; exact ⟨by omega, by omega⟩
  rw [hEe, words_val h0 h1 h2 h3] at hmin
  rw [hEe]
  refine fn_go h_scalar_Inv rfl (by kernel_rfl) (fun _ => by kernel_rfl) rfl rfl fun W0 => ?_
  conv => whnf
  refine ⟨_, scOrder_fn.2 _ _, rfl, ?_⟩
  conv => whnf
  refine ⟨_, (scOf_fn (n := 2) ⟨by omega, by omega⟩).2 _ _, rfl, ?_⟩
  conv => whnf
  refine ⟨_, hmin.2 _ _, rfl, ?_⟩
  conv => whnf
  refine ⟨_, (scOf_fn (n := 1) ⟨by omega, by omega⟩).2 _ _, rfl, ?_⟩
  conv => whnf
  refine .inr (loop_inv (gOk W0) (ScI x e0 e1 e2 e3) ?_ ?_)
  · intro k e' m' hI
    obtain ⟨n, t0, t1, t2, t3, rfl, hn, rfl, rfl⟩ := hI
    cases k with
    | zero =>
      conv => whnf
      have : pw nn x (val e0 e1 e2 e3) 0 = x ^ (val e0 e1 e2 e3).toNat % nn := by unfold pw; simp
      rw [← this]
      rfl
    | succ n =>
      have en : ((n + 1 : Nat) : Int) - 1 = n := by omega
      rw [en]
      have hr : InW (pw nn x (val e0 e1 e2 e3) (n + 1)) := by unfold pw nn; exact ⟨by omega, by omega⟩
      have hr2 : InW (pw nn x (val e0 e1 e2 e3) (n + 1) * pw nn x (val e0 e1 e2 e3) (n + 1) % nn) := by unfold nn; exact ⟨by omega, by omega⟩
      conv => whnf
      refine ⟨_, (scMul_fn hr hr).2 _ _, rfl, ?_⟩
      have hq : ∃ q s : Nat, q < 4 ∧ s < 64 ∧ n = 64 * q + s := ⟨n / 64, n % 64, by omega, by omega, by omega⟩
      obtain ⟨q, s, hq4, hs, rfl⟩ := hq
      have hdiv : IntKind.i64.wrap (Int.tdiv ((64 * q + s : Nat) : Int) 64) = q := by
        have : Int.tdiv ((64 * q + s : Nat) : Int) 64 = q := by
          rw [Int.tdiv_eq_ediv_of_nonneg (by omega)]; omega
        rw [this]
        simp only [IntKind.wrap, IntKind.signed, IntKind.bits]
        simp
        omega
      have hmod : Int.tmod ((64 * q + s : Nat) : Int) 64 = s := by
        rw [Int.tmod_eq_emod_of_nonneg (by omega)]; omega
      have hbits := bit_word h0 h1 h2 h3 s hs
      have hw : wr .i64 (((64 * q + s : Nat) : Int) - 1) = .int .i64 (((64 * q + s : Nat) : Int) - 1) := by
        simp only [wr, i64_dec (s := 64 * q + s) (by omega)]
      conv => whnf
      obtain rfl | rfl | rfl | rfl : q = 0 ∨ q = 1 ∨ q = 2 ∨ q = 3 := by omega
      · have hbv : val e0 e1 e2 e3 / 2 ^ (64 * 0 + s) % 2 = e0 / 2 ^ s % 2 := by
          rw [show 64 * 0 + s = s by omega]
          exact hbits.1
        rw [hdiv]
        conv => whnf
        rw [hmod, shr_s e0 hs, and1 (shr_in h0 s).1 (shr_in h0 s).2]
        split
        · rename_i hb
          have hbit : val e0 e1 e2 e3 / 2 ^ (64 * 0 + s) % 2 = 1 := by rw [hbv]; simpa using hb
          conv => whnf
          refine ⟨_, (scMul_fn hr2 hx).2 _ _, rfl, ?_⟩
          conv => whnf
          rw [pw_step hE.1 _ hbit]
          refine ⟨64 * 0 + s, _, _, Nat.lt_succ_self _, wk_of (by (repeat' apply And.intro) <;> first | trivial | rfl | exact congrArg (fun x => some (TV.one x)) hw) (by (repeat' apply And.intro) <;> first | trivial | rfl) (Nat.le_refl _) (Nat.le_refl _), ⟨64 * 0 + s, t0, t1, t2, t3, rfl, by omega, rfl, rfl⟩⟩
        · rename_i hb
          have hbit : val e0 e1 e2 e3 / 2 ^ (64 * 0 + s) % 2 = 0 := by
            have hb : ¬ e0 / 2 ^ s % 2 = 1 := by simpa using hb
            omega
          conv => whnf
          rw [pw_skip hE.1 _ hbit]
          refine ⟨64 * 0 + s, _, _, Nat.lt_succ_self _, wk_of (by (repeat' apply And.intro) <;> first | trivial | rfl | exact congrArg (fun x => some (TV.one x)) hw) (by (repeat' apply And.intro) <;> first | trivial | rfl) (Nat.le_refl _) (Nat.le_refl _), ⟨64 * 0 + s, t0, t1, t2, t3, rfl, by omega, rfl, rfl⟩⟩
      · have hbv : val e0 e1 e2 e3 / 2 ^ (64 * 1 + s) % 2 = e1 / 2 ^ s % 2 := by
          rw [show 64 * 1 + s = 64 + s by omega]
          exact hbits.2.1
        rw [hdiv]
        conv => whnf
        rw [hmod, shr_s e1 hs, and1 (shr_in h1 s).1 (shr_in h1 s).2]
        split
        · rename_i hb
          have hbit : val e0 e1 e2 e3 / 2 ^ (64 * 1 + s) % 2 = 1 := by rw [hbv]; simpa using hb
          conv => whnf
          refine ⟨_, (scMul_fn hr2 hx).2 _ _, rfl, ?_⟩
          conv => whnf
          rw [pw_step hE.1 _ hbit]
          refine ⟨64 * 1 + s, _, _, Nat.lt_succ_self _, wk_of (by (repeat' apply And.intro) <;> first | trivial | rfl | exact congrArg (fun x => some (TV.one x)) hw) (by (repeat' apply And.intro) <;> first | trivial | rfl) (Nat.le_refl _) (Nat.le_refl _), ⟨64 * 1 + s, t0, t1, t2, t3, rfl, by omega, rfl, rfl⟩⟩
        · rename_i hb
          have hbit : val e0 e1 e2 e3 / 2 ^ (64 * 1 + s) % 2 = 0 := by
            have hb : ¬ e1 / 2 ^ s % 2 = 1 := by simpa using hb
            omega
          conv => whnf
          rw [pw_skip hE.1 _ hbit]
          refine ⟨64 * 1 + s, _, _, Nat.lt_succ_self _, wk_of (by (repeat' apply And.intro) <;> first | trivial | rfl | exact congrArg (fun x => some (TV.one x)) hw) (by (repeat' apply And.intro) <;> first | trivial | rfl) (Nat.le_refl _) (Nat.le_refl _), ⟨64 * 1 + s, t0, t1, t2, t3, rfl, by omega, rfl, rfl⟩⟩
      · have hbv : val e0 e1 e2 e3 / 2 ^ (64 * 2 + s) % 2 = e2 / 2 ^ s % 2 := by
          rw [show 64 * 2 + s = 128 + s by omega]
          exact hbits.2.2.1
        rw [hdiv]
        conv => whnf
        rw [hmod, shr_s e2 hs, and1 (shr_in h2 s).1 (shr_in h2 s).2]
        split
        · rename_i hb
          have hbit : val e0 e1 e2 e3 / 2 ^ (64 * 2 + s) % 2 = 1 := by rw [hbv]; simpa using hb
          conv => whnf
          refine ⟨_, (scMul_fn hr2 hx).2 _ _, rfl, ?_⟩
          conv => whnf
          rw [pw_step hE.1 _ hbit]
          refine ⟨64 * 2 + s, _, _, Nat.lt_succ_self _, wk_of (by (repeat' apply And.intro) <;> first | trivial | rfl | exact congrArg (fun x => some (TV.one x)) hw) (by (repeat' apply And.intro) <;> first | trivial | rfl) (Nat.le_refl _) (Nat.le_refl _), ⟨64 * 2 + s, t0, t1, t2, t3, rfl, by omega, rfl, rfl⟩⟩
        · rename_i hb
          have hbit : val e0 e1 e2 e3 / 2 ^ (64 * 2 + s) % 2 = 0 := by
            have hb : ¬ e2 / 2 ^ s % 2 = 1 := by simpa using hb
            omega
          conv => whnf
          rw [pw_skip hE.1 _ hbit]
          refine ⟨64 * 2 + s, _, _, Nat.lt_succ_self _, wk_of (by (repeat' apply And.intro) <;> first | trivial | rfl | exact congrArg (fun x => some (TV.one x)) hw) (by (repeat' apply And.intro) <;> first | trivial | rfl) (Nat.le_refl _) (Nat.le_refl _), ⟨64 * 2 + s, t0, t1, t2, t3, rfl, by omega, rfl, rfl⟩⟩
      · have hbv : val e0 e1 e2 e3 / 2 ^ (64 * 3 + s) % 2 = e3 / 2 ^ s % 2 := by
          rw [show 64 * 3 + s = 192 + s by omega]
          exact hbits.2.2.2
        rw [hdiv]
        conv => whnf
        rw [hmod, shr_s e3 hs, and1 (shr_in h3 s).1 (shr_in h3 s).2]
        split
        · rename_i hb
          have hbit : val e0 e1 e2 e3 / 2 ^ (64 * 3 + s) % 2 = 1 := by rw [hbv]; simpa using hb
          conv => whnf
          refine ⟨_, (scMul_fn hr2 hx).2 _ _, rfl, ?_⟩
          conv => whnf
          rw [pw_step hE.1 _ hbit]
          refine ⟨64 * 3 + s, _, _, Nat.lt_succ_self _, wk_of (by (repeat' apply And.intro) <;> first | trivial | rfl | exact congrArg (fun x => some (TV.one x)) hw) (by (repeat' apply And.intro) <;> first | trivial | rfl) (Nat.le_refl _) (Nat.le_refl _), ⟨64 * 3 + s, t0, t1, t2, t3, rfl, by omega, rfl, rfl⟩⟩
        · rename_i hb
          have hbit : val e0 e1 e2 e3 / 2 ^ (64 * 3 + s) % 2 = 0 := by
            have hb : ¬ e3 / 2 ^ s % 2 = 1 := by simpa using hb
            omega
          conv => whnf
          rw [pw_skip hE.1 _ hbit]
          refine ⟨64 * 3 + s, _, _, Nat.lt_succ_self _, wk_of (by (repeat' apply And.intro) <;> first | trivial | rfl | exact congrArg (fun x => some (TV.one x)) hw) (by (repeat' apply And.intro) <;> first | trivial | rfl) (Nat.le_refl _) (Nat.le_refl _), ⟨64 * 3 + s, t0, t1, t2, t3, rfl, by omega, rfl, rfl⟩⟩
  · have h256 : pw nn x (val e0 e1 e2 e3) 256 = 1 := by
      unfold pw
      have p256 : (2 : Int) ^ 256 = 115792089237316195423570985008687907853269984665640564039457584007913129639936 := by decide
      have : val e0 e1 e2 e3 / 2 ^ 256 = 0 := Int.ediv_eq_zero_of_lt hE.1 (by rw [p256]; exact hE.2)
      rw [this]
      show x ^ 0 % nn = 1
      rw [Int.pow_zero]
      decide
    refine ⟨256, _, _, wk_of (by (repeat' apply And.intro) <;> first | trivial | rfl) (by (repeat' apply And.intro) <;> first | trivial | rfl) (Nat.le_refl _) (Nat.le_refl _), ⟨256, _, _, _, _, rfl, by omega, rfl, by rw [h256]; rfl⟩⟩

end Go.Ev
