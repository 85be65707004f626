import Derived.Test.YthmdbgdagnhheaaDoorCu7
namespace Go.Hv
open Go.Ev Go.Ec

noncomputable def sp (P : Pt PPn) (E : Int) (n : Nat) : Pt PPn := smul (E / 2 ^ n).toNat P

theorem two_split {E : Int} (hE : 0 ≤ E) (n : Nat) : (E / 2 ^ n).toNat = (E / 2 ^ (n + 1)).toNat + (E / 2 ^ (n + 1)).toNat + (E / 2 ^ n % 2).toNat := by
 have h : E / 2 ^ (n + 1) = E / 2 ^ n / 2 := by
  rw [Int.pow_succ, Int.ediv_ediv_of_nonneg (Int.pow_nonneg (by omega))]
 have h0 : 0 ≤ E / 2 ^ n := Int.ediv_nonneg hE (Int.pow_nonneg (by omega))
 rw [h]
 omega

theorem sp_skip {P : Pt PPn} (hP : On P) {E : Int} (hE : 0 ≤ E) (n : Nat) (h : E / 2 ^ n % 2 = 0) : sp P E n = add (sp P E (n + 1)) (sp P E (n + 1)) := by
 unfold sp
 rw [two_split hE n, h, ← smul_add fld P hP]
 rfl

theorem sp_step {P : Pt PPn} (hP : On P) {E : Int} (hE : 0 ≤ E) (n : Nat) (h : E / 2 ^ n % 2 = 1) : sp P E n = add (add (sp P E (n + 1)) (sp P E (n + 1))) P := by
 unfold sp
 rw [two_split hE n, h, ← smul_add fld P hP]
 rfl

theorem sp_on {P : Pt PPn} (hP : On P) (E : Int) (n : Nat) : On (sp P E n) := smul_on fld P hP _

def r9 : List Sc := [u 0, u 0, u 0, u 0, u 0, u 0, u 0, u 0, .bool false]

def MuO (P : Pt PPn) (x1 y1 n0 n1 n2 n3 : Int) (k : Nat) (e : Env) (m : HM) : Prop :=
 ∃ (i t2 t3 t4 t5 t6 : Nat) (T : KK × KK × KK) (N : Base), k = i ∧ i ≤ 4 ∧ hm T = sp P (val n0 n1 n2 n3) (64 * i) ∧
  e = [(9, .one (.int .i64 ((i : Int) - 1))), (8, .one (.ptr (some (.loc 6 0)))), (7, .one (.ptr (some (.loc 5 0)))), (6, .one (.ptr (some (.loc 4 0)))), (5, .one (.ptr (some (.loc 3 0)))), (4, .one (.ptr (some (.loc 2 0))))] ∧
  m = ⟨[none, none, some ⟨r9, t2, 0, false⟩, some ⟨[u n0, u n1, u n2, u n3], t3, 0, false⟩, some ⟨words x1, t4, 0, false⟩, some ⟨words y1, t5, 0, false⟩, some ⟨farC (vK T.1) (vK T.2.1) (vK T.2.2), t6, 0, false⟩], N⟩

def MuN (P : Pt PPn) (x1 y1 n0 n1 n2 n3 : Int) (q : Nat) (k : Nat) (e : Env) (m : HM) : Prop :=
 ∃ (s t2 t3 t4 t5 t6 : Nat) (T : KK × KK × KK) (N : Base), k = s ∧ s ≤ 64 ∧ hm T = sp P (val n0 n1 n2 n3) (64 * q + s) ∧
  e = [(10, .one (u ((2 ^ s / 2 : Nat) : Int))), (9, .one (.int .i64 ((q : Int)))), (8, .one (.ptr (some (.loc 6 0)))), (7, .one (.ptr (some (.loc 5 0)))), (6, .one (.ptr (some (.loc 4 0)))), (5, .one (.ptr (some (.loc 3 0)))), (4, .one (.ptr (some (.loc 2 0))))] ∧
  m = ⟨[none, none, some ⟨r9, t2, 0, false⟩, some ⟨[u n0, u n1, u n2, u n3], t3, 0, false⟩, some ⟨words x1, t4, 0, false⟩, some ⟨words y1, t5, 0, false⟩, some ⟨farC (vK T.1) (vK T.2.1) (vK T.2.2), t6, 0, false⟩], N⟩

end Go.Hv
