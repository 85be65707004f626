import Derived.Test.YtaochmekimkegaaDoorMc5
namespace Go.Ec

def kn (n : Nat) : Fin PPn := toK (n : Int)

theorem kn_add (a b : Nat) : kn (a + b) = kn a + kn b := by unfold kn; rw [Int.natCast_add, toK_add]
theorem kn_mul (a b : Nat) : kn (a * b) = kn a * kn b := by unfold kn; rw [Int.natCast_mul, toK_mul]
theorem kn_mod (a : Nat) : kn (a % PPn) = kn a := by
 unfold kn
 rw [toK_eq, Int.natCast_emod, Int.emod_emod_of_dvd _ (Int.dvd_refl _)]
theorem kn_neg (a : Nat) : kn (PPn - a % PPn) = -kn a := by
 have hlt : a % PPn < PPn := Nat.mod_lt _ (by decide)
 have h : kn (PPn - a % PPn) + kn a = 0 := by
  rw [← kn_mod a, ← kn_add]
  have : PPn - a % PPn + a % PPn = PPn := Nat.sub_add_cancel (Nat.le_of_lt hlt)
  rw [this, ← kn_mod, Nat.mod_self]
  exact toK_zero
 grind

def tadd (T U : Nat × Nat × Nat) : Nat × Nat × Nat :=
 (((T.1 * U.2.1 + U.1 * T.2.1) % PPn * ((T.2.1 * U.2.1 + (PPn - (21 * (T.2.2 * U.2.2)) % PPn)) % PPn) + (PPn - (21 * (T.2.1 * U.2.2 + U.2.1 * T.2.2) % PPn * ((T.1 * U.2.2 + U.1 * T.2.2) % PPn)) % PPn)) % PPn,
  ((T.2.1 * U.2.1 + 21 * (T.2.2 * U.2.2)) % PPn * ((T.2.1 * U.2.1 + (PPn - (21 * (T.2.2 * U.2.2)) % PPn)) % PPn) + 63 * (T.1 * U.1) % PPn * ((T.1 * U.2.2 + U.1 * T.2.2) % PPn)) % PPn,
  ((T.2.1 * U.2.2 + U.2.1 * T.2.2) % PPn * ((T.2.1 * U.2.1 + 21 * (T.2.2 * U.2.2)) % PPn) + 3 * (T.1 * U.1) % PPn * ((T.1 * U.2.1 + U.1 * T.2.1) % PPn)) % PPn)

theorem n21 : kn 21 = 21 := k21
theorem n63 : kn 63 = 63 := k63
theorem n3 : kn 3 = 3 := k3

theorem tadd_ok (T U : Nat × Nat × Nat) : kn (tadd T U).1 = cX (kn T.1) (kn T.2.1) (kn T.2.2) (kn U.1) (kn U.2.1) (kn U.2.2) ∧ kn (tadd T U).2.1 = cY (kn T.1) (kn T.2.1) (kn T.2.2) (kn U.1) (kn U.2.1) (kn U.2.2) ∧
  kn (tadd T U).2.2 = cZ (kn T.1) (kn T.2.1) (kn T.2.2) (kn U.1) (kn U.2.1) (kn U.2.2) := by
 unfold tadd cX cY cZ
 simp only [kn_mod, kn_add, kn_mul, kn_neg, n21, n63, n3]
 refine ⟨by grind, by grind, by grind⟩

theorem c00 {p : Nat} [NeZero p] : cX (p := p) 0 1 0 0 1 0 = 0 ∧ cY (p := p) 0 1 0 0 1 0 = 1 := by
 unfold cX cY
 constructor <;> grind

theorem good_all (P Q : Pt PPn) (hP : On P) (hQ : On Q) : Good (cX (tri P).1 (tri P).2.1 (tri P).2.2 (tri Q).1 (tri Q).2.1 (tri Q).2.2) (cY (tri P).1 (tri P).2.1 (tri P).2.2 (tri Q).1 (tri Q).2.1 (tri Q).2.2) (cZ (tri P).1 (tri P).2.1 (tri P).2.2 (tri Q).1 (tri Q).2.1 (tri Q).2.2) := by
 have F := fld
 refine ⟨fun hz => ?_⟩
 cases P with
 | none =>
  cases Q with
  | none =>
   simp only [tri]
   exact ⟨c00.1, fun h => F.one (by rw [← c00.2]; exact h)⟩
  | some b =>
   exfalso
   have hy := F.y0 hQ
   simp only [tri] at hz
   exact hy (by unfold cZ at hz; grind)
 | some a =>
  cases Q with
  | none =>
   exfalso
   have hy := F.y0 hP
   simp only [tri] at hz
   exact hy (by unfold cZ at hz; grind)
  | some b => exact (c_good F hP hQ).inf hz

def Rep (T : Nat × Nat × Nat) (P : Pt PPn) : Prop := ∃ k, k ≠ 0 ∧ tri P = (k * kn T.1, k * kn T.2.1, k * kn T.2.2)

theorem rep_add {T U : Nat × Nat × Nat} {P Q : Pt PPn} (hP : On P) (hQ : On Q) (h1 : Rep T P) (h2 : Rep U Q) : Rep (tadd T U) (add P Q) := by
 have F := fld
 obtain ⟨k, hk, e1⟩ := h1
 obtain ⟨l, hl, e2⟩ := h2
 obtain ⟨m, hm, e3⟩ := tri_nrm F (good_all P Q hP hQ)
 have e4 : tri (add P Q) = _ := e3
 obtain ⟨t1, t2, t3⟩ := tadd_ok T U
 obtain ⟨s1, s2, s3⟩ := c_scale k (kn T.1) (kn T.2.1) (kn T.2.2) l (kn U.1) (kn U.2.1) (kn U.2.2)
 refine ⟨m * (k * k * (l * l)), F.mul hm (F.mul (F.mul hk hk) (F.mul hl hl)), ?_⟩
 rw [e4, e1, e2, t1, t2, t3]
 simp only [s1, s2, s3]
 congr 1
 ·grind
 ·congr 1 <;> grind

def gT : Nat × Nat × Nat := (55066263022277343669578718895168534326250603453777594175500187360389116729240, 32670510020758816978083085130507043184471273380659243275938904335757337482424, 1)

def lad : Nat → Nat → Nat × Nat × Nat
 | 0, _ => (0, 1, 0)
 | k + 1, e => match e % 2 with
  | 0 => tadd (lad k (e / 2)) (lad k (e / 2))
  | _ => tadd (tadd (lad k (e / 2)) (lad k (e / 2))) gT

def gP : Pt PPn := some (kn gT.1, kn gT.2.1)

theorem gP_on : On gP := by
 show kn gT.2.1 * kn gT.2.1 = kn gT.1 * kn gT.1 * kn gT.1 + 7
 have n7 : kn 7 = 7 := k7
 rw [← n7, ← kn_mul, ← kn_mul, ← kn_mul, ← kn_add]
 unfold kn
 rw [toK_eq]
 decide +kernel

theorem rep_g : Rep gT gP := ⟨1, fld.one, by
 have n1 : kn 1 = 1 := k1
 show (kn gT.1, kn gT.2.1, (1 : Fin PPn)) = (1 * kn gT.1, 1 * kn gT.2.1, 1 * kn 1)
 have o1 : ∀ a : Fin PPn, 1 * a = a := fun a => by grind
 rw [n1, o1, o1, o1]⟩

theorem rep_lad : ∀ k e, e < 2 ^ k → Rep (lad k e) (smul e gP)
 | 0, e, h => by
  have : e = 0 := by simpa using h
  subst this
  refine ⟨1, fld.one, ?_⟩
  have n1 : kn 1 = 1 := k1
  have n0 : kn 0 = 0 := toK_zero
  show ((0 : Fin PPn), (1 : Fin PPn), (0 : Fin PPn)) = (1 * kn 0, 1 * kn 1, 1 * kn 0)
  rw [n1, n0]
  rfl
 | k + 1, e, h => by
  have F := fld
  have ih := rep_lad k (e / 2) (by rw [Nat.pow_succ] at h; omega)
  have hon := smul_on F gP gP_on (e / 2)
  have hd := rep_add hon hon ih ih
  unfold lad
  split
  ·rename_i h0
   have : e = e / 2 + e / 2 := by omega
   rw [this, smul_add F gP gP_on, ← this]
   exact hd
  ·rename_i h0
   have h0 : ¬ e % 2 = 0 := h0
   have : e = e / 2 + e / 2 + 1 := by omega
   have e1 : smul e gP = add (add (smul (e / 2) gP) (smul (e / 2) gP)) gP := by
    rw [← smul_add F gP gP_on]
    exact congrArg (fun k => smul k gP) this
   rw [e1]
   exact rep_add (add_on F _ _ hon hon) gP_on hd rep_g

theorem lad_n : Nat.beq (lad 256 115792089237316195423570985008687907852837564279074904382605163141518161494337).2.2 0 = true := by kernel_rfl

theorem n_g {n : Nat} (hn : n = 115792089237316195423570985008687907852837564279074904382605163141518161494337) : smul n gP = none := by
 have h0 := Nat.eq_of_beq_eq_true lad_n
 have hr : n < 2 ^ 256 → Rep (lad 256 n) (smul n gP) := rep_lad 256 n
 rw [← hn] at h0
 obtain ⟨k, hk, e⟩ := hr (by rw [hn]; decide)
 rw [h0] at e
 cases hs : smul n gP with
 | none => rfl
 | some a =>
  rw [hs] at e
  have h2 := congrArg (fun t => t.2.2) e
  simp only [tri] at h2
  have n0 : kn 0 = 0 := toK_zero
  rw [n0] at h2
  exact absurd (by rw [h2]; grind) fld.one

theorem n_all {n : Nat} (hn : n = 115792089237316195423570985008687907852837564279074904382605163141518161494337) (P : Pt PPn) (hP : On P) : smul n P = none :=
 order_all (by rw [hn]; exact Nt.prime_n) (by rw [hn]; decide) gP gP_on (n_g hn) (by unfold gP; exact fun h => by cases h) P hP

end Go.Ec
