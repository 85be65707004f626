import Derived.Test.YtaochmekimkegaaFeA
import Derived.Test.YtaochmekimkegaaWq
import Derived.Test.YtaochmekimkegaaHs
namespace Go.Hv
open Go.Ev

theorem round_cut {G : Cfg} {b : Code} {d : List Nat} {Q : Exit → Env → HM → Prop} {k : Nat} {e : Env} {m : HM}
  (h : ∀ K : Exit → Env → HM → Prop, (∀ e' m', restr (fun e'' => loopNC (swpC G b) d Q k e'' m') e' d [] → K .normal e' m') → (∀ i e' m', Q (.exit i) e' m' → K (.exit i) e' m') → (∀ e' m', Q .ret e' m' → K .ret e' m') → swpC G b K e m) :
  loopNC (swpC G b) d Q (k + 1) e m := by
 refine h _ (fun _ _ h => h) (fun _ _ _ h => h) (fun _ _ h => h)

theorem loop_start {G : Cfg} {b : Code} {Q : Exit → Env → HM → Prop} {k : Nat} {e : Env} {m : HM} (h : loopNC (swpC G b) (dom e []) Q k e m) : swpC G (.loop b) Q e m := .inl ⟨k, h⟩

def restrE (e : Env) : List Nat → Env → Env
 | [], acc => acc
 | t :: ts, acc => match get e t with
  | some v => restrE e ts ((t, v) :: acc)
  | none => restrE e ts acc

theorem restr_to {K : Env → Prop} {e : Env} : ∀ {l : List Nat} {acc : Env}, K (restrE e l acc) → restr K e l acc
 | [], _, h => h
 | t :: ts, acc, h => by
  simp only [restrE] at h
  simp only [restr]
  split at h
  ·rename_i hh; simp only [hh]; exact restr_to h
  ·rename_i hh; simp only [hh]; exact restr_to h

theorem round_next {b : (Exit → Env → HM → Prop) → Env → HM → Prop} {d : List Nat} {Q : Exit → Env → HM → Prop} {k : Nat} {e' : Env} {m' : HM} (E : Env) (M : HM) (he : restrE e' d [] = E) (hm : m' = M) (h : loopNC b d Q k E M) :
  restr (fun e'' => loopNC b d Q k e'' m') e' d [] := by
 subst he hm
 exact restr_to h

def bq (l : Int) (k : Nat) : Sc := .int .u8 (IntKind.u8.wrap (l.fdiv (2 ^ k)))

def bcs1 (y : Int) : List Sc := [Sc.int .u8 0, Sc.int .u8 0, Sc.int .u8 0, Sc.int .u8 0, Sc.int .u8 0, Sc.int .u8 0, Sc.int .u8 0, Sc.int .u8 0, Sc.int .u8 0, Sc.int .u8 0, Sc.int .u8 0, Sc.int .u8 0, Sc.int .u8 0, Sc.int .u8 0, Sc.int .u8 0, Sc.int .u8 0, Sc.int .u8 0, Sc.int .u8 0, Sc.int .u8 0, Sc.int .u8 0, Sc.int .u8 0, Sc.int .u8 0, Sc.int .u8 0, Sc.int .u8 0, bq (y % 18446744073709551616) 56, bq (y % 18446744073709551616) 48, bq (y % 18446744073709551616) 40, bq (y % 18446744073709551616) 32, bq (y % 18446744073709551616) 24, bq (y % 18446744073709551616) 16, bq (y % 18446744073709551616) 8, bq (y % 18446744073709551616) 0]
def bcs2 (y : Int) : List Sc := [Sc.int .u8 0, Sc.int .u8 0, Sc.int .u8 0, Sc.int .u8 0, Sc.int .u8 0, Sc.int .u8 0, Sc.int .u8 0, Sc.int .u8 0, Sc.int .u8 0, Sc.int .u8 0, Sc.int .u8 0, Sc.int .u8 0, Sc.int .u8 0, Sc.int .u8 0, Sc.int .u8 0, Sc.int .u8 0, bq (y / 18446744073709551616 % 18446744073709551616) 56, bq (y / 18446744073709551616 % 18446744073709551616) 48, bq (y / 18446744073709551616 % 18446744073709551616) 40, bq (y / 18446744073709551616 % 18446744073709551616) 32, bq (y / 18446744073709551616 % 18446744073709551616) 24, bq (y / 18446744073709551616 % 18446744073709551616) 16, bq (y / 18446744073709551616 % 18446744073709551616) 8, bq (y / 18446744073709551616 % 18446744073709551616) 0, bq (y % 18446744073709551616) 56, bq (y % 18446744073709551616) 48, bq (y % 18446744073709551616) 40, bq (y % 18446744073709551616) 32, bq (y % 18446744073709551616) 24, bq (y % 18446744073709551616) 16, bq (y % 18446744073709551616) 8, bq (y % 18446744073709551616) 0]
def bcs3 (y : Int) : List Sc := [Sc.int .u8 0, Sc.int .u8 0, Sc.int .u8 0, Sc.int .u8 0, Sc.int .u8 0, Sc.int .u8 0, Sc.int .u8 0, Sc.int .u8 0, bq (y / 340282366920938463463374607431768211456 % 18446744073709551616) 56, bq (y / 340282366920938463463374607431768211456 % 18446744073709551616) 48, bq (y / 340282366920938463463374607431768211456 % 18446744073709551616) 40, bq (y / 340282366920938463463374607431768211456 % 18446744073709551616) 32, bq (y / 340282366920938463463374607431768211456 % 18446744073709551616) 24, bq (y / 340282366920938463463374607431768211456 % 18446744073709551616) 16, bq (y / 340282366920938463463374607431768211456 % 18446744073709551616) 8, bq (y / 340282366920938463463374607431768211456 % 18446744073709551616) 0, bq (y / 18446744073709551616 % 18446744073709551616) 56, bq (y / 18446744073709551616 % 18446744073709551616) 48, bq (y / 18446744073709551616 % 18446744073709551616) 40, bq (y / 18446744073709551616 % 18446744073709551616) 32, bq (y / 18446744073709551616 % 18446744073709551616) 24, bq (y / 18446744073709551616 % 18446744073709551616) 16, bq (y / 18446744073709551616 % 18446744073709551616) 8, bq (y / 18446744073709551616 % 18446744073709551616) 0, bq (y % 18446744073709551616) 56, bq (y % 18446744073709551616) 48, bq (y % 18446744073709551616) 40, bq (y % 18446744073709551616) 32, bq (y % 18446744073709551616) 24, bq (y % 18446744073709551616) 16, bq (y % 18446744073709551616) 8, bq (y % 18446744073709551616) 0]
def bcs4 (y : Int) : List Sc := [bq (y / 6277101735386680763835789423207666416102355444464034512896 % 18446744073709551616) 56, bq (y / 6277101735386680763835789423207666416102355444464034512896 % 18446744073709551616) 48, bq (y / 6277101735386680763835789423207666416102355444464034512896 % 18446744073709551616) 40, bq (y / 6277101735386680763835789423207666416102355444464034512896 % 18446744073709551616) 32, bq (y / 6277101735386680763835789423207666416102355444464034512896 % 18446744073709551616) 24, bq (y / 6277101735386680763835789423207666416102355444464034512896 % 18446744073709551616) 16, bq (y / 6277101735386680763835789423207666416102355444464034512896 % 18446744073709551616) 8, bq (y / 6277101735386680763835789423207666416102355444464034512896 % 18446744073709551616) 0, bq (y / 340282366920938463463374607431768211456 % 18446744073709551616) 56, bq (y / 340282366920938463463374607431768211456 % 18446744073709551616) 48, bq (y / 340282366920938463463374607431768211456 % 18446744073709551616) 40, bq (y / 340282366920938463463374607431768211456 % 18446744073709551616) 32, bq (y / 340282366920938463463374607431768211456 % 18446744073709551616) 24, bq (y / 340282366920938463463374607431768211456 % 18446744073709551616) 16, bq (y / 340282366920938463463374607431768211456 % 18446744073709551616) 8, bq (y / 340282366920938463463374607431768211456 % 18446744073709551616) 0, bq (y / 18446744073709551616 % 18446744073709551616) 56, bq (y / 18446744073709551616 % 18446744073709551616) 48, bq (y / 18446744073709551616 % 18446744073709551616) 40, bq (y / 18446744073709551616 % 18446744073709551616) 32, bq (y / 18446744073709551616 % 18446744073709551616) 24, bq (y / 18446744073709551616 % 18446744073709551616) 16, bq (y / 18446744073709551616 % 18446744073709551616) 8, bq (y / 18446744073709551616 % 18446744073709551616) 0, bq (y % 18446744073709551616) 56, bq (y % 18446744073709551616) 48, bq (y % 18446744073709551616) 40, bq (y % 18446744073709551616) 32, bq (y % 18446744073709551616) 24, bq (y % 18446744073709551616) 16, bq (y % 18446744073709551616) 8, bq (y % 18446744073709551616) 0]

end Go.Hv

namespace Go.Hv
open Go.Ev

def orU (a b : Int) : Int := IntKind.u64.wrap (BitVec.ofInt IntKind.u64.bits a ||| BitVec.ofInt IntKind.u64.bits b).toNat
def shB (l : Int) (k : Nat) : Int := IntKind.u8.wrap (l.fdiv (2 ^ k)) % 18446744073709551616 * 2 ^ k % 18446744073709551616

theorem orU_add {a b : Int} (k : Nat) (ha : 0 ≤ a) (ha2 : a < 2 ^ k) (hb : 0 ≤ b) (hs : a + 2 ^ k * b < 18446744073709551616) : orU a (2 ^ k * b) = a + 2 ^ k * b := by
 obtain ⟨a, rfl⟩ := Int.eq_ofNat_of_zero_le ha
 obtain ⟨b, rfl⟩ := Int.eq_ofNat_of_zero_le hb
 have ha3 : a < 2 ^ k := by exact_mod_cast ha2
 have e : (2 ^ k * (b : Int)) = ((2 ^ k * b : Nat) : Int) := by rw [Int.natCast_mul, Int.natCast_pow]; rfl
 have hs2 : a + 2 ^ k * b < 18446744073709551616 := by rw [e] at hs; generalize 2 ^ k * b = t at *; omega
 unfold orU
 change IntKind.u64.wrap (BitVec.ofInt 64 _ ||| BitVec.ofInt 64 _).toNat = _
 rw [e, BitVec.ofInt_natCast, BitVec.ofInt_natCast]
 simp only [BitVec.toNat_or, BitVec.toNat_ofNat]
 rw [Nat.mod_eq_of_lt (by generalize 2 ^ k * b = t at *; omega), Nat.mod_eq_of_lt (by generalize 2 ^ k * b = t at *; omega), Nat.or_comm, ← Nat.two_pow_add_eq_or_of_lt ha3]
 simp only [IntKind.wrap, IntKind.signed, IntKind.bits]
 generalize 2 ^ k * b = t at *
 simp
 omega
def ow (l : Int) : Int := (orU (orU (orU (orU (orU (orU (orU (orU 0 (shB l 0)) (shB l 8)) (shB l 16)) (shB l 24)) (shB l 32)) (shB l 40)) (shB l 48)) (shB l 56))

def bcsL (l0 l1 l2 l3 : Int) : List Sc := [bq l3 56, bq l3 48, bq l3 40, bq l3 32, bq l3 24, bq l3 16, bq l3 8, bq l3 0, bq l2 56, bq l2 48, bq l2 40, bq l2 32, bq l2 24, bq l2 16, bq l2 8, bq l2 0, bq l1 56, bq l1 48, bq l1 40, bq l1 32, bq l1 24, bq l1 16, bq l1 8, bq l1 0, bq l0 56, bq l0 48, bq l0 40, bq l0 32, bq l0 24, bq l0 16, bq l0 8, bq l0 0]

theorem shB_eq' {l : Int} (k : Nat) (P Q : Int) (hP : (2 : Int) ^ k = P) (h1 : 0 < P) (hQ : P * Q = 18446744073709551616) (h256 : 256 ≤ Q) : shB l k = 2 ^ k * (l / P % 256) := by
 unfold shB
 rw [hP, Int.fdiv_eq_ediv_of_nonneg _ (by omega)]
 simp only [IntKind.wrap, IntKind.signed, IntKind.bits]
 simp
 generalize l / P = t
 have a1 : 0 ≤ t % 256 := by omega
 have a2 : t % 256 < 256 := by omega
 generalize t % 256 = s at *
 have e1 : s % 18446744073709551616 = s := by omega
 rw [e1, Int.mul_comm]
 refine Int.emod_eq_of_lt (Int.mul_nonneg (by omega) a1) ?_
 rw [← hQ]
 exact Int.mul_lt_mul_of_pos_left (by omega) h1

theorem or_step {l : Int} (k : Nat) (P Q R : Int) (hP : (2 : Int) ^ k = P) (h1 : 0 < P) (hQ : P * Q = 18446744073709551616) (h256 : 256 ≤ Q) (hR : l % P + P * (l / P % 256) = l % R) (hR1 : 0 < R) (hR2 : R ≤ 18446744073709551616) :
  orU (l % P) (shB l k) = l % R := by
 rw [shB_eq' k P Q hP h1 hQ h256]
 have hlt := Int.emod_lt_of_pos l hR1
 rw [orU_add k (Int.emod_nonneg _ (by omega)) (by rw [hP]; exact Int.emod_lt_of_pos _ h1) (Int.emod_nonneg _ (by omega)) (by rw [hP, hR]; omega), hP, hR]

theorem ow_eq {l : Int} (hl : InU l) : ow l = l := by
 unfold ow
 have e0 : (0 : Int) = l % 1 := by omega
 have z : l % 18446744073709551616 = l := by omega
 rw [e0, or_step 0 1 18446744073709551616 256 rfl (by omega) (by omega) (by omega) (by omega) (by omega) (by omega)]
 rw [or_step 8 256 72057594037927936 65536 rfl (by omega) (by omega) (by omega) (by omega) (by omega) (by omega)]
 rw [or_step 16 65536 281474976710656 16777216 rfl (by omega) (by omega) (by omega) (by omega) (by omega) (by omega)]
 rw [or_step 24 16777216 1099511627776 4294967296 rfl (by omega) (by omega) (by omega) (by omega) (by omega) (by omega)]
 rw [or_step 32 4294967296 4294967296 1099511627776 rfl (by omega) (by omega) (by omega) (by omega) (by omega) (by omega)]
 rw [or_step 40 1099511627776 16777216 281474976710656 rfl (by omega) (by omega) (by omega) (by omega) (by omega) (by omega)]
 rw [or_step 48 281474976710656 65536 72057594037927936 rfl (by omega) (by omega) (by omega) (by omega) (by omega) (by omega)]
 rw [or_step 56 72057594037927936 256 18446744073709551616 rfl (by omega) (by omega) (by omega) (by omega) (by omega) (by omega)]
 exact z

def readP (y : Int) : Int × Bool := if y % pp = y then (y, true) else (0, false)

end Go.Hv
