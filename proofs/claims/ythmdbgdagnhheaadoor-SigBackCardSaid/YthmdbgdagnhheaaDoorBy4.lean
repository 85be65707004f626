import Derived.Test.YthmdbgdagnhheaaDoorByI
namespace Go.Hv
open Go.Ev

def nst (acc l : Int) (k : Nat) : Int := (acc * 256 % 18446744073709551616 + IntKind.u8.wrap (l.fdiv (2 ^ k)) % 18446744073709551616) % 18446744073709551616

theorem nst_eq {l acc : Int} (k : Nat) (P Q : Int) (hP : (2 : Int) ^ k = P) (h1 : 0 < P) (hQ : Q = 256 * P) (ha : acc = l / Q) (hl : InU l) (h2 : 256 * P ≤ 18446744073709551616) : nst acc l k = l / P := by
 unfold nst
 rw [hP, Int.fdiv_eq_ediv_of_nonneg _ (by omega)]
 simp only [IntKind.wrap, IntKind.signed, IntKind.bits]
 simp
 have e : l / Q = l / P / 256 := by rw [hQ, Int.mul_comm, Int.ediv_ediv_of_nonneg (by omega)]
 have h3 : 0 ≤ l / P := Int.ediv_nonneg hl.1 (by omega)
 have h4 : l / P ≤ l := Int.ediv_le_self P hl.1
 rw [ha, e]
 have := hl.2
 generalize l / P = z at *
 omega

theorem nst_56 {l : Int} (hl : InU l) : nst (0) l 56 = l / 72057594037927936 := by
 have h := nst_eq (acc := 0) 56 72057594037927936 18446744073709551616 (by decide) (by omega) (by omega) (by omega) hl (by omega)
 exact h

theorem nst_48 {l : Int} (hl : InU l) : nst (l / 72057594037927936) l 48 = l / 281474976710656 := by
 have h := nst_eq (acc := l / 72057594037927936) 48 281474976710656 72057594037927936 (by decide) (by omega) (by omega) rfl hl (by omega)
 exact h

theorem nst_40 {l : Int} (hl : InU l) : nst (l / 281474976710656) l 40 = l / 1099511627776 := by
 have h := nst_eq (acc := l / 281474976710656) 40 1099511627776 281474976710656 (by decide) (by omega) (by omega) rfl hl (by omega)
 exact h

theorem nst_32 {l : Int} (hl : InU l) : nst (l / 1099511627776) l 32 = l / 4294967296 := by
 have h := nst_eq (acc := l / 1099511627776) 32 4294967296 1099511627776 (by decide) (by omega) (by omega) rfl hl (by omega)
 exact h

theorem nst_24 {l : Int} (hl : InU l) : nst (l / 4294967296) l 24 = l / 16777216 := by
 have h := nst_eq (acc := l / 4294967296) 24 16777216 4294967296 (by decide) (by omega) (by omega) rfl hl (by omega)
 exact h

theorem nst_16 {l : Int} (hl : InU l) : nst (l / 16777216) l 16 = l / 65536 := by
 have h := nst_eq (acc := l / 16777216) 16 65536 16777216 (by decide) (by omega) (by omega) rfl hl (by omega)
 exact h

theorem nst_8 {l : Int} (hl : InU l) : nst (l / 65536) l 8 = l / 256 := by
 have h := nst_eq (acc := l / 65536) 8 256 65536 (by decide) (by omega) (by omega) rfl hl (by omega)
 exact h

theorem nst_0 {l : Int} (hl : InU l) : nst (l / 256) l 0 = l := by
 have h := nst_eq (acc := l / 256) 0 1 256 (by decide) (by omega) (by omega) rfl hl (by omega)
 rw [h]; omega

end Go.Hv
