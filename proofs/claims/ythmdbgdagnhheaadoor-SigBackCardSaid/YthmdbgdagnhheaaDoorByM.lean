import Derived.Test.YthmdbgdagnhheaaDoorByB
import Derived.Test.YthmdbgdagnhheaaDoorLaw
namespace Go.Hv
open Go.Ev

theorem bq_eq {l b : Int} (k : Nat) (P : Int) (hP : (2 : Int) ^ k = P) (h1 : 0 < P) (h : l / P % 256 = b) : bq l k = .int .u8 b := by
 unfold bq
 rw [hP, Int.fdiv_eq_ediv_of_nonneg _ (by omega)]
 simp only [IntKind.wrap, IntKind.signed, IntKind.bits]
 subst h
 rfl

theorem limb_of {b0 b1 b2 b3 b4 b5 b6 b7 : Int} (h0 : 0 ≤ b0 ∧ b0 < 256) (h1 : 0 ≤ b1 ∧ b1 < 256) (h2 : 0 ≤ b2 ∧ b2 < 256) (h3 : 0 ≤ b3 ∧ b3 < 256) (h4 : 0 ≤ b4 ∧ b4 < 256) (h5 : 0 ≤ b5 ∧ b5 < 256) (h6 : 0 ≤ b6 ∧ b6 < 256) (h7 : 0 ≤ b7 ∧ b7 < 256) : ∃ l, InU l ∧ bq l 0 = .int .u8 b0 ∧ bq l 8 = .int .u8 b1 ∧ bq l 16 = .int .u8 b2 ∧ bq l 24 = .int .u8 b3 ∧ bq l 32 = .int .u8 b4 ∧ bq l 40 = .int .u8 b5 ∧ bq l 48 = .int .u8 b6 ∧ bq l 56 = .int .u8 b7 := by
 refine ⟨1 * b0 + 256 * b1 + 65536 * b2 + 16777216 * b3 + 4294967296 * b4 + 1099511627776 * b5 + 281474976710656 * b6 + 72057594037927936 * b7, ⟨by omega, by omega⟩, bq_eq 0 1 rfl (by omega) (by omega), bq_eq 8 256 rfl (by omega) (by omega), bq_eq 16 65536 rfl (by omega) (by omega), bq_eq 24 16777216 rfl (by omega) (by omega), bq_eq 32 4294967296 rfl (by omega) (by omega), bq_eq 40 1099511627776 rfl (by omega) (by omega), bq_eq 48 281474976710656 rfl (by omega) (by omega), bq_eq 56 72057594037927936 rfl (by omega) (by omega)⟩

theorem wf_u8' {x : Int} (h : (Lit.int .u8 x).wf = true) : 0 ≤ x ∧ x < 256 := by
 simp [Lit.wf, IntKind.min, IntKind.max, IntKind.signed, IntKind.bits] at h
 omega

theorem bytes_of {l : List Int} (hl : l.length = 32) (hb : ∀ x ∈ l, 0 ≤ x ∧ x < 256) : ∃ l0 l1 l2 l3, InU l0 ∧ InU l1 ∧ InU l2 ∧ InU l3 ∧ l.map (Sc.int .u8) = bcsL l0 l1 l2 l3 := by
 match l, hl with
 | [b0, b1, b2, b3, b4, b5, b6, b7, b8, b9, b10, b11, b12, b13, b14, b15, b16, b17, b18, b19, b20, b21, b22, b23, b24, b25, b26, b27, b28, b29, b30, b31], _ =>
  obtain ⟨l0, u0, e00, e01, e02, e03, e04, e05, e06, e07⟩ := limb_of (hb b31 (by simp)) (hb b30 (by simp)) (hb b29 (by simp)) (hb b28 (by simp)) (hb b27 (by simp)) (hb b26 (by simp)) (hb b25 (by simp)) (hb b24 (by simp))
  obtain ⟨l1, u1, e10, e11, e12, e13, e14, e15, e16, e17⟩ := limb_of (hb b23 (by simp)) (hb b22 (by simp)) (hb b21 (by simp)) (hb b20 (by simp)) (hb b19 (by simp)) (hb b18 (by simp)) (hb b17 (by simp)) (hb b16 (by simp))
  obtain ⟨l2, u2, e20, e21, e22, e23, e24, e25, e26, e27⟩ := limb_of (hb b15 (by simp)) (hb b14 (by simp)) (hb b13 (by simp)) (hb b12 (by simp)) (hb b11 (by simp)) (hb b10 (by simp)) (hb b9 (by simp)) (hb b8 (by simp))
  obtain ⟨l3, u3, e30, e31, e32, e33, e34, e35, e36, e37⟩ := limb_of (hb b7 (by simp)) (hb b6 (by simp)) (hb b5 (by simp)) (hb b4 (by simp)) (hb b3 (by simp)) (hb b2 (by simp)) (hb b1 (by simp)) (hb b0 (by simp))
  refine ⟨l0, l1, l2, l3, u0, u1, u2, u3, ?_⟩
  unfold bcsL
  rw [e00, e01, e02, e03, e04, e05, e06, e07, e10, e11, e12, e13, e14, e15, e16, e17, e20, e21, e22, e23, e24, e25, e26, e27, e30, e31, e32, e33, e34, e35, e36, e37]
  rfl

end Go.Hv
