import Derived.Test.YtknjgeicagcdoaaDoorSh6
import Derived.Test.YtknjgeicagcdoaaDoorByI
namespace Go.Hv
open Go.Ev

/-! ## The reference: a digest's bytes as a slice; a text that is padded -/

def TxE (i : Nat) (sl : TV) : Env := [(4, .one (.int .i64 (i : Int))), (3, sl), (1, .one (.ptr (some (.loc 0 0))))]

def TxI (D : List Int) (k : Nat) (e : Env) (m : HM) : Prop :=
  ∃ (i t0 : Nat) (N : Base), i ≤ 32 ∧ k = 32 - i ∧
    ((i = 0 ∧ e = TxE i (.one (.slice none 0 0)) ∧ m = ⟨[some ⟨u8s D, t0, 0, false⟩], N⟩) ∨
     (0 < i ∧ ∃ cap, i ≤ cap ∧ e = TxE i (.one (.slice (some (.loc 1 0)) i cap)) ∧ m = ⟨[some ⟨u8s D, t0, 0, false⟩, some ⟨u8s (D.take i), t_uint8, cap * 1, true⟩], N⟩))

theorem u8_blkR (X : List Int) (t g : Nat) (gr : Bool) (F : Nat → Bool) (c : Con) (ρ : Ren) : (⟨u8s X, t, g, gr⟩ : Blk) = ⟨rnL F c ρ (u8s X), t, g, gr⟩ := by rw [rnL_id (ints_cl _ _ 0)]

theorem u8_take (D : List Int) {i : Nat} (h : i < D.length) : takeAt (u8s D) (0 + i * 1) 1 = some [.int .u8 D[i]] := by
  rw [take1 (by rw [List.length_map]; exact h), List.getElem_map]

theorem u8_snoc (D : List Int) {i : Nat} (h : i < D.length) : u8s (D.take i) ++ [.int .u8 D[i]] = u8s (D.take (i + 1)) := by
  rw [show [Sc.int .u8 D[i]] = u8s [D[i]] from rfl, u8s_app, List.take_succ_eq_append_getElem h]

set_option maxRecDepth 100000 in
theorem text_hco {A : Base} {D : List Int} (hD : D.length = 32) : HCO PG A f_ref01_Text [.agg (u8s D)] fun n cap k _ => n = 32 ∧ 32 ≤ cap ∧ k = ⟨u8s D, t_uint8, cap * 1, true⟩ := by
  refine hco_start (fun _ => none) h_ref01_Text rfl (by kernel_rfl) (by kernel_rfl) (closedTs_iff.2 fun v hv => by
    simp only [List.mem_singleton] at hv
    subst hv
    exact ints_cl _ _ 0) ?_
  refine swp_cut fun K hK hR _ => ?_
  conv => whnf
  refine hK _ _ ?_
  clear hK hR
  refine swp_cut fun K hK hR _ => ?_
  conv => whnf
  refine hK _ _ ?_
  clear hK hR
  refine swp_cut fun K hK hR _ => ?_
  refine swp_cut fun K2 hK2 hR2 _ => ?_
  conv => whnf
  refine hK2 _ _ ?_
  clear hK2 hR2
  conv => whnf
  refine .inr (loop_invR (gH A _) (TxI D) ?_ ?_)
  · intro k' e' m' hI
    obtain ⟨i, t0, N, hi32, rfl, ⟨hi0, rfl, rfl⟩ | ⟨hi0, cap, hcap, rfl, rfl⟩⟩ := hI
    · conv => whnf
      cases hlt : decide ((i : Int) < 32) with
      | true =>
        have hi : i < 32 := by have := of_decide_eq_true hlt; omega
        have hiD : i < D.length := by omega
        have hsn := u8_snoc D hiD
        have htk := u8_take D hiD
        generalize D[i] = d at *
        show swpC _ (Code.seq _ _) _ _ _
        refine swp_cut fun K4 hK4 hR4 _ => ?_
        refine swp_block ?_
        iterate 2 (refine aops_step fun T S hT hS => ?_; (conv => whnf); refine hT _ _ ?_)
        refine aops_step fun T S hT hS => ?_
        conv => whnf
        rw [dec_idx (n := 32) hi]
        conv => whnf
        refine hT _ _ ?_
        refine aops_step fun T S hT hS => ?_
        conv => whnf
        conv in (takeAt _ _ _) => change takeAt (u8s D) (0 + i * 1) 1; rw [htk]
        conv => whnf
        refine hT _ _ ?_
        refine aops_step fun T S hT hS => ?_
        conv => whnf
        refine hT _ _ ?_
        refine aops_step fun T S hT hS => ?_
        conv => whnf
        refine ⟨[.int .u8 d], rfl, rfl, rfl, ?_⟩
        conv => whnf
        refine ⟨⟨by omega, by omega⟩, by omega, fun cap' hcap' => ?_⟩
        conv => whnf
        refine hT _ _ ?_
        refine aops_step fun T S hT hS => ?_
        conv => whnf
        refine hT _ _ ?_
        refine aops_end ?_
        refine hK4 _ _ ?_
        clear hK4 hR4
        conv => whnf
        have hblk : ∀ (c : Con) (ρ : Ren), (⟨u8s (D.take (i + 1)), t_uint8, cap' * 1, true⟩ : Blk) = ⟨rnL F0 c ρ [.int .u8 d], t_uint8, cap' * 1, true⟩ := fun c ρ => by
          rw [← hsn, hi0]
          rfl
        have hsl : ∀ c, TV.one (.slice (some (.loc 1 0)) (i + 1) cap') = TV.rn F0 c (tp 1 2) (.one (.slice (some (.loc 2 0)) 1 cap')) := fun c => by rw [hi0]; rfl
        refine ⟨32 - (i + 1), F0, tp 1 2, by omega, tp_ok (by exact Nat.le_of_ble_eq_true rfl) (by exact Nat.le_of_ble_eq_true rfl), fun c N1 _ _ => ⟨_, _, wkR_of (by (repeat' apply And.intro) <;> first | trivial | exact ⟨_, rfl, tv_inc (n := 32) hi (by omega), rfl⟩ | exact ⟨_, rfl, hsl c, rfl⟩ | exact ⟨_, rfl, rfl, rfl⟩) (by (repeat' apply And.intro) <;> first | trivial | rfl | exact ⟨_, rfl, hblk c _, ints_cl _ _ _⟩ | exact ⟨_, rfl, u8_blkR _ _ _ _ _ _ _, ints_cl _ _ _⟩) (by exact Nat.le_of_ble_eq_true rfl), ⟨i + 1, t0, N1, hi, rfl, .inr ⟨by omega, cap', by omega, rfl, rfl⟩⟩⟩⟩
      | false => exact absurd (of_decide_eq_false hlt) (by omega)
    · conv => whnf
      cases hlt : decide ((i : Int) < 32) with
      | true =>
        have hi : i < 32 := by have := of_decide_eq_true hlt; omega
        have hiD : i < D.length := by omega
        have hsn := u8_snoc D hiD
        have htk := u8_take D hiD
        generalize D[i] = d at *
        show swpC _ (Code.seq _ _) _ _ _
        refine swp_cut fun K4 hK4 hR4 _ => ?_
        refine swp_block ?_
        iterate 2 (refine aops_step fun T S hT hS => ?_; (conv => whnf); refine hT _ _ ?_)
        refine aops_step fun T S hT hS => ?_
        conv => whnf
        rw [dec_idx (n := 32) hi]
        conv => whnf
        refine hT _ _ ?_
        refine aops_step fun T S hT hS => ?_
        conv => whnf
        conv in (takeAt _ _ _) => change takeAt (u8s D) (0 + i * 1) 1; rw [htk]
        conv => whnf
        refine hT _ _ ?_
        refine aops_step fun T S hT hS => ?_
        conv => whnf
        refine hT _ _ ?_
        refine aops_step fun T S hT hS => ?_
        conv => whnf
        refine ⟨[.int .u8 d], rfl, rfl, rfl, ?_⟩
        conv => whnf
        refine ⟨by rw [List.length_map, List.length_take]; omega, hcap, rfl, rfl, ⟨by omega, by omega⟩, fun cap' hcap' => ?_⟩
        conv => whnf
        refine hT _ _ ?_
        refine aops_step fun T S hT hS => ?_
        conv => whnf
        refine hT _ _ ?_
        refine aops_end ?_
        refine hK4 _ _ ?_
        clear hK4 hR4
        conv => whnf
        have hblk : ∀ (c : Con) (ρ : Ren), (⟨u8s (D.take (i + 1)), t_uint8, cap' * 1, true⟩ : Blk) = ⟨rnL F0 c ρ (u8s (D.take i) ++ [.int .u8 d]), t_uint8, cap' * 1, true⟩ := fun c ρ => by
          rw [hsn, rnL_id (ints_cl _ _ 0)]
        refine ⟨32 - (i + 1), F0, tp 1 3, by omega, tp_ok (by exact Nat.le_of_ble_eq_true rfl) (by exact Nat.le_of_ble_eq_true rfl), fun c N1 _ _ => ⟨_, _, wkR_of (by (repeat' apply And.intro) <;> first | trivial | exact ⟨_, rfl, tv_inc (n := 32) hi (by omega), rfl⟩ | exact ⟨_, rfl, rfl, rfl⟩) (by (repeat' apply And.intro) <;> first | trivial | rfl | exact ⟨_, rfl, hblk c _, ints_cl _ _ _⟩ | exact ⟨_, rfl, u8_blkR _ _ _ _ _ _ _, ints_cl _ _ _⟩) (by exact Nat.le_of_ble_eq_true rfl), ⟨i + 1, t0, N1, hi, rfl, .inr ⟨by omega, cap', hcap', rfl, rfl⟩⟩⟩⟩
      | false =>
        obtain rfl : i = 32 := by have := of_decide_eq_false hlt; omega
        have ht : D.take 32 = D := List.take_of_length_le (by omega)
        conv => whnf
        refine hK _ _ ?_
        clear hK hR
        rw [ht]
        conv => whnf
        exact ⟨_, _, _, _, rfl, rfl, ints_cl _ _ 0, rfl, hcap, rfl⟩
  · refine ⟨32, F0, ren0, ren0_ok _, fun c N1 _ _ => ⟨_, _, wkR_of (by (repeat' apply And.intro) <;> first | trivial | exact ⟨_, rfl, rfl, rfl⟩) (by (repeat' apply And.intro) <;> first | trivial | rfl | exact ⟨_, rfl, u8_blkR _ _ _ _ _ _ _, ints_cl _ _ _⟩) (by exact Nat.le_of_ble_eq_true rfl), ⟨0, _, N1, by omega, rfl, .inl ⟨rfl, rfl, rfl⟩⟩⟩⟩

theorem zp_lt {n z : Nat} (hz : z ≤ zc (n % 64)) (h : (((n + 1 + z : Nat) : Int).tmod 64 != 56) = true) : z < zc (n % 64) := by
  refine zc_lt (by omega) hz ?_
  have e : (((n % 64 + 1 + z : Nat) : Int).tmod 64) = (((n + 1 + z : Nat) : Int).tmod 64) := by
    show (((n % 64 + 1 + z) % 64 : Nat) : Int) = (((n + 1 + z) % 64 : Nat) : Int)
    rw [show (n % 64 + 1 + z) % 64 = (n + 1 + z) % 64 by omega]
  rw [e]; exact h
theorem zp_eq {n z : Nat} (hz : z ≤ zc (n % 64)) (h : (((n + 1 + z : Nat) : Int).tmod 64 != 56) = false) : z = zc (n % 64) := by
  refine zc_eq (by omega) hz ?_
  have e : (((n % 64 + 1 + z : Nat) : Int).tmod 64) = (((n + 1 + z : Nat) : Int).tmod 64) := by
    show (((n % 64 + 1 + z) % 64 : Nat) : Int) = (((n + 1 + z) % 64 : Nat) : Int)
    rw [show (n % 64 + 1 + z) % 64 = (n + 1 + z) % 64 by omega]
  rw [e]; exact h

def P2 (X : List Int) (i : Nat) : List Int := C1 X (zc (X.length % 64)) ++ (tl8 X.length).take i
/-- A text as it is mixed in. -/
def padL (X : List Int) : List Int := C1 X (zc (X.length % 64)) ++ tl8 X.length
theorem P2_len (X : List Int) {i : Nat} (h : i ≤ 8) : (P2 X i).length = X.length + 1 + zc (X.length % 64) + i := by
  unfold P2
  rw [List.length_append, C1_len, List.length_take, tl8_len]
  omega
theorem P2_succ (X : List Int) {i : Nat} (h : i < 8) : P2 X i ++ [bt X.length i] = P2 X (i + 1) := by
  unfold P2
  have hl : i < (tl8 X.length).length := by rw [tl8_len]; exact h
  rw [List.append_assoc, List.take_succ_eq_append_getElem hl]
  congr 2
  simp [tl8]
theorem P2_8 (X : List Int) : P2 X 8 = padL X := by
  unfold P2 padL
  rw [List.take_of_length_le (by rw [tl8_len]; exact Nat.le_refl _)]
theorem padL_len (X : List Int) : (padL X).length = X.length + 1 + zc (X.length % 64) + 8 := by
  rw [← P2_8, P2_len X (Nat.le_refl _)]
theorem padL_64 (X : List Int) : (padL X).length % 64 = 0 := by
  rw [padL_len]
  unfold zc
  omega

/-- The whole padded text gives what the Hash gives. -/
theorem pad_sha (X : List Int) : dgl (runP (padL X) begun8 ((padL X).length / 64)) = shaD X := by
  have h1 : padL X = X.take (64 * (X.length / 64)) ++ last (restOf X) X.length := by
    unfold padL last C1
    have e : X.take (64 * (X.length / 64)) ++ restOf X = X := by unfold restOf; exact List.take_append_drop _ _
    rw [restOf_len]
    simp only [← List.append_assoc]
    rw [e]
  have hl : (X.take (64 * (X.length / 64))).length = 64 * (X.length / 64) := by rw [List.length_take]; omega
  have hd : (padL X).drop (64 * (X.length / 64)) = last (restOf X) X.length := by
    rw [h1, List.drop_append_of_le_length (by omega), List.drop_eq_nil_of_le (by omega), List.nil_append]
  have hq : (padL X).length / 64 = X.length / 64 + (last (restOf X) X.length).length / 64 := by
    rw [h1, List.length_append, hl]
    omega
  have hr : runP (padL X) begun8 (X.length / 64) = runP X begun8 (X.length / 64) := by
    rw [h1, runP_app _ _ _ _ (by omega)]
    have := runP_app (X.take (64 * (X.length / 64))) (X.drop (64 * (X.length / 64))) begun8 (X.length / 64) (by omega)
    rw [List.take_append_drop] at this
    exact this.symm
  unfold shaD finS stateOf
  rw [hq, runP_add, hd, hr]

def PdI1_3 (q : TV) (X : List Int) (k : Nat) (e : Env) (m : HM) : Prop :=
  ∃ (z cap : Nat) (N : Base), z ≤ zc (X.length % 64) ∧ k = zc (X.length % 64) - z ∧ X.length + 1 + z ≤ cap ∧
    ((z = 0 ∧ e = [(3, .one (.slice (some (.loc 3 0)) (X.length + 1 + z) cap)), (0, q)] ∧ m = ⟨[none, none, none, some ⟨u8s (C1 X z), t_uint8, cap * 1, true⟩], N⟩) ∨ (0 < z ∧ e = [(3, .one (.slice (some (.loc 4 0)) (X.length + 1 + z) cap)), (0, q)] ∧ m = ⟨[none, none, none, none, some ⟨u8s (C1 X z), t_uint8, cap * 1, true⟩], N⟩))

def PdI2_3 (X : List Int) (k : Nat) (e : Env) (m : HM) : Prop :=
  ∃ (i cap : Nat) (N : Base), i ≤ 8 ∧ k = 8 - i ∧ X.length + 1 + zc (X.length % 64) + i ≤ cap ∧
    ((i = 0 ∧ e = [(5, .one (.int .i64 (i : Int))), (4, .one (.int .u64 (8 * ((X.length : Int) % 18446744073709551616) % 18446744073709551616))), (3, .one (.slice (some (.loc 3 0)) (X.length + 1 + zc (X.length % 64) + i) cap))] ∧ m = ⟨[none, none, none, some ⟨u8s (P2 X i), t_uint8, cap * 1, true⟩], N⟩) ∨ (0 < i ∧ e = [(5, .one (.int .i64 (i : Int))), (4, .one (.int .u64 (8 * ((X.length : Int) % 18446744073709551616) % 18446744073709551616))), (3, .one (.slice (some (.loc 4 0)) (X.length + 1 + zc (X.length % 64) + i) cap))] ∧ m = ⟨[none, none, none, none, some ⟨u8s (P2 X i), t_uint8, cap * 1, true⟩], N⟩))

def PdI2_4 (X : List Int) (k : Nat) (e : Env) (m : HM) : Prop :=
  ∃ (i cap : Nat) (N : Base), i ≤ 8 ∧ k = 8 - i ∧ X.length + 1 + zc (X.length % 64) + i ≤ cap ∧
    ((i = 0 ∧ e = [(5, .one (.int .i64 (i : Int))), (4, .one (.int .u64 (8 * ((X.length : Int) % 18446744073709551616) % 18446744073709551616))), (3, .one (.slice (some (.loc 4 0)) (X.length + 1 + zc (X.length % 64) + i) cap))] ∧ m = ⟨[none, none, none, none, some ⟨u8s (P2 X i), t_uint8, cap * 1, true⟩], N⟩) ∨ (0 < i ∧ e = [(5, .one (.int .i64 (i : Int))), (4, .one (.int .u64 (8 * ((X.length : Int) % 18446744073709551616) % 18446744073709551616))), (3, .one (.slice (some (.loc 5 0)) (X.length + 1 + zc (X.length % 64) + i) cap))] ∧ m = ⟨[none, none, none, none, none, some ⟨u8s (P2 X i), t_uint8, cap * 1, true⟩], N⟩))

set_option maxHeartbeats 1000000 in
set_option maxRecDepth 100000 in
theorem padded_hco {A : Base} {q : TV} {X : List Int} (hs : Sl A 1 q (ones (u8s X))) (hX : X.length ≤ 1000000000000) : HCO PG A f_ref01_Padded [q] fun n cap k _ => n = (padL X).length ∧ (padL X).length ≤ cap ∧ k = ⟨u8s (padL X), t_uint8, cap * 1, true⟩ := by
  obtain ⟨p, c0, rfl, g1, g2, g3⟩ := id hs
  have hlX := u8s_len X
  rw [hlX] at hs g1 ⊢
  have hblk20 : ∀ (c : Con) (ρ : Ren) (g : Nat), (⟨u8s (P2 X 0), t_uint8, g * 1, true⟩ : Blk) = ⟨rnL F0 c ρ (u8s (C1 X (zc (X.length % 64)))), t_uint8, g * 1, true⟩ := fun c ρ g => by
    rw [rnL_id (ints_cl _ _ 0)]
    unfold P2
    rw [List.take_zero, List.append_nil]
  have hblk10 : ∀ (c : Con) (ρ : Ren) (g : Nat), (⟨u8s (C1 X 0), t_uint8, g * 1, true⟩ : Blk) = ⟨rnL F0 c ρ ([] ++ u8s X ++ [.int .u8 128]), t_uint8, g * 1, true⟩ := fun c ρ g => by
    rw [List.nil_append, show [Sc.int .u8 128] = u8s [128] from rfl, u8s_app, rnL_id (ints_cl _ _ 0)]
    unfold C1
    rw [List.replicate_zero, List.append_nil]
  refine hco_start (fun _ => none) h_ref01_Padded rfl (by kernel_rfl) (by kernel_rfl) (closedTs_iff.2 fun v hv => by
    simp only [List.mem_singleton] at hv
    subst hv
    exact hs.stable.1 0) ?_
  refine swp_cut fun K hK hR _ => ?_
  conv => whnf
  refine hK _ _ ?_
  clear hK hR
  refine swp_cut fun K hK hR _ => ?_
  iterate 2 (refine aops_step fun T S hT hS => ?_; (conv => whnf); refine hT _ _ ?_)
  refine aops_step fun T S hT hS => ?_
  conv => whnf
  refine ⟨u8s X, hs.has (by rw [List.length_map]), by rw [List.length_map, Nat.mul_one], rfl, ?_⟩
  conv => whnf
  refine ⟨rfl, Nat.le_refl _, rfl, rfl, ⟨by omega, by omega⟩, fun cap1 hcap1 => ?_⟩
  rw [Nat.zero_add] at hcap1 ⊢
  conv => whnf
  refine hT _ _ ?_
  refine aops_step fun T S hT hS => ?_
  conv => whnf
  refine hT _ _ ?_
  refine aops_end ?_
  refine hK _ _ ?_
  clear hK hR
  refine swp_cut fun K hK hR _ => ?_
  iterate 2 (refine aops_step fun T S hT hS => ?_; (conv => whnf); refine hT _ _ ?_)
  refine aops_step fun T S hT hS => ?_
  conv => whnf
  refine ⟨[.int .u8 128], rfl, rfl, rfl, ?_⟩
  conv => whnf
  refine ⟨by show ([] ++ u8s X).length = X.length * 1; rw [List.nil_append, List.length_map, Nat.mul_one], hcap1, rfl, rfl, ⟨by omega, by omega⟩, fun cap2 hcap2 => ?_⟩
  conv => whnf
  refine hT _ _ ?_
  refine aops_step fun T S hT hS => ?_
  conv => whnf
  refine hT _ _ ?_
  refine aops_end ?_
  refine hK _ _ ?_
  clear hK hR
  refine swp_cut fun K hK hR _ => ?_
  conv => whnf
  refine .inr (loop_invR (gH A _) (PdI1_3 (.one (.slice p X.length c0)) X) ?_ ?_)
  · intro k' e' m' hI
    obtain ⟨z, cap, N, hz, rfl, hcap, ⟨hz0, rfl, rfl⟩ | ⟨hz0, rfl, rfl⟩⟩ := hI
    · conv => whnf
      cases hq : (((X.length + 1 + z : Nat) : Int).tmod 64 != 56) with
      | true =>
        have hzlt : z < zc (X.length % 64) := zp_lt hz hq
        conv => whnf
        refine ⟨[.int .u8 0], rfl, rfl, rfl, ?_⟩
        conv => whnf
        refine ⟨by rw [List.length_map, C1_len, Nat.mul_one], hcap, rfl, rfl, ⟨by unfold zc at hz; omega, by omega⟩, fun cap' hcap' => ?_⟩
        conv => whnf
        have hblk : ∀ (c : Con) (ρ : Ren), (⟨u8s (C1 X (z + 1)), t_uint8, cap' * 1, true⟩ : Blk) = ⟨rnL F0 c ρ (u8s (C1 X z) ++ [.int .u8 0]), t_uint8, cap' * 1, true⟩ := fun c ρ => by
          rw [show [Sc.int .u8 0] = u8s [0] from rfl, u8s_app, C1_succ, rnL_id (ints_cl _ _ 0)]
        refine ⟨zc (X.length % 64) - (z + 1), F0, tp 4 5, by omega, tp_ok (by exact Nat.le_of_ble_eq_true rfl) (by exact Nat.le_of_ble_eq_true rfl), fun c N1 _ _ => ⟨_, _, wkR_of (by (repeat' apply And.intro) <;> first | trivial | exact ⟨_, rfl, rfl, rfl⟩ | exact ⟨_, rfl, (hs.rn' _ _ _).symm, hs.stable.1 _⟩) (by (repeat' apply And.intro) <;> first | trivial | rfl | exact ⟨_, rfl, hblk c _, ints_cl _ _ _⟩ | exact ⟨_, rfl, rfl, rfl⟩) (by exact Nat.le_of_ble_eq_true rfl), ⟨z + 1, cap', N1, hzlt, rfl, hcap', .inr ⟨by omega, rfl, rfl⟩⟩⟩⟩
      | false =>
        have hzeq : z = zc (X.length % 64) := zp_eq hz hq
        subst hzeq
        conv => whnf
        refine hK _ _ ?_
        clear hK hR
        refine swp_cut fun K hK hR _ => ?_
        conv => whnf
        refine hK _ _ ?_
        clear hK hR
        refine swp_cut fun K hK hR _ => ?_
        refine swp_cut fun K2 hK2 hR2 _ => ?_
        conv => whnf
        refine hK2 _ _ ?_
        clear hK2 hR2
        conv => whnf
        refine .inr (loop_invR (gH A _) (PdI2_3 X) ?_ ?_)
        · intro k' e' m' hI
          obtain ⟨i, cap, N, hi8, rfl, hcap, ⟨hi0, rfl, rfl⟩ | ⟨hi0, rfl, rfl⟩⟩ := hI
          · conv => whnf
            cases hlt : decide ((i : Int) < 8) with
            | true =>
              have hi : i < 8 := by have := of_decide_eq_true hlt; omega
              have e8 : wr .i64 (8 * (i : Int)) = .int .i64 ((8 * i : Nat) : Int) := by
                simp only [wr]
                rw [wrapN (n := 8 * i) (by omega) (by omega)]
              have e56 : wr .i64 (56 - ((8 * i : Nat) : Int)) = .int .i64 ((56 - 8 * i : Nat) : Int) := by
                simp only [wr]
                rw [wrapN (n := 56 - 8 * i) (by omega) (by omega)]
              show swpC _ (Code.seq _ _) _ _ _
              refine swp_cut fun K4 hK4 hR4 _ => ?_
              refine swp_block ?_
              iterate 3 (refine aops_step fun T S hT hS => ?_; (conv => whnf); refine hT _ _ ?_)
              refine aops_step fun T S hT hS => ?_
              conv => whnf
              rw [e8]
              refine hT _ _ ?_
              refine aops_step fun T S hT hS => ?_
              conv => whnf
              rw [e56]
              refine hT _ _ ?_
              iterate 3 (refine aops_step fun T S hT hS => ?_; (conv => whnf); refine hT _ _ ?_)
              refine aops_step fun T S hT hS => ?_
              conv => whnf
              refine ⟨[.int .u8 (bt X.length i)], rfl, rfl, rfl, ?_⟩
              conv => whnf
              refine ⟨by rw [List.length_map, P2_len X hi8, Nat.mul_one], hcap, rfl, rfl, ⟨by unfold zc; omega, by omega⟩, fun cap' hcap' => ?_⟩
              conv => whnf
              refine hT _ _ ?_
              refine aops_step fun T S hT hS => ?_
              conv => whnf
              refine hT _ _ ?_
              refine aops_end ?_
              refine hK4 _ _ ?_
              clear hK4 hR4
              conv => whnf
              have hblk : ∀ (c : Con) (ρ : Ren), (⟨u8s (P2 X (i + 1)), t_uint8, cap' * 1, true⟩ : Blk) = ⟨rnL F0 c ρ (u8s (P2 X i) ++ [.int .u8 (bt X.length i)]), t_uint8, cap' * 1, true⟩ := fun c ρ => by
                rw [show [Sc.int .u8 (bt X.length i)] = u8s [bt X.length i] from rfl, u8s_app, P2_succ X hi, rnL_id (ints_cl _ _ 0)]
              refine ⟨8 - (i + 1), F0, tp 4 5, by omega, tp_ok (by exact Nat.le_of_ble_eq_true rfl) (by exact Nat.le_of_ble_eq_true rfl), fun c N1 _ _ => ⟨_, _, wkR_of (by (repeat' apply And.intro) <;> first | trivial | exact ⟨_, rfl, tv_inc (n := 8) hi (by omega), rfl⟩ | exact ⟨_, rfl, rfl, rfl⟩) (by (repeat' apply And.intro) <;> first | trivial | rfl | exact ⟨_, rfl, hblk c _, ints_cl _ _ _⟩ | exact ⟨_, rfl, rfl, rfl⟩) (by exact Nat.le_of_ble_eq_true rfl), ⟨i + 1, cap', N1, hi, rfl, hcap', .inr ⟨by omega, rfl, rfl⟩⟩⟩⟩
            | false =>
              exact absurd (of_decide_eq_false hlt) (by omega)
          · conv => whnf
            cases hlt : decide ((i : Int) < 8) with
            | true =>
              have hi : i < 8 := by have := of_decide_eq_true hlt; omega
              have e8 : wr .i64 (8 * (i : Int)) = .int .i64 ((8 * i : Nat) : Int) := by
                simp only [wr]
                rw [wrapN (n := 8 * i) (by omega) (by omega)]
              have e56 : wr .i64 (56 - ((8 * i : Nat) : Int)) = .int .i64 ((56 - 8 * i : Nat) : Int) := by
                simp only [wr]
                rw [wrapN (n := 56 - 8 * i) (by omega) (by omega)]
              show swpC _ (Code.seq _ _) _ _ _
              refine swp_cut fun K4 hK4 hR4 _ => ?_
              refine swp_block ?_
              iterate 3 (refine aops_step fun T S hT hS => ?_; (conv => whnf); refine hT _ _ ?_)
              refine aops_step fun T S hT hS => ?_
              conv => whnf
              rw [e8]
              refine hT _ _ ?_
              refine aops_step fun T S hT hS => ?_
              conv => whnf
              rw [e56]
              refine hT _ _ ?_
              iterate 3 (refine aops_step fun T S hT hS => ?_; (conv => whnf); refine hT _ _ ?_)
              refine aops_step fun T S hT hS => ?_
              conv => whnf
              refine ⟨[.int .u8 (bt X.length i)], rfl, rfl, rfl, ?_⟩
              conv => whnf
              refine ⟨by rw [List.length_map, P2_len X hi8, Nat.mul_one], hcap, rfl, rfl, ⟨by unfold zc; omega, by omega⟩, fun cap' hcap' => ?_⟩
              conv => whnf
              refine hT _ _ ?_
              refine aops_step fun T S hT hS => ?_
              conv => whnf
              refine hT _ _ ?_
              refine aops_end ?_
              refine hK4 _ _ ?_
              clear hK4 hR4
              conv => whnf
              have hblk : ∀ (c : Con) (ρ : Ren), (⟨u8s (P2 X (i + 1)), t_uint8, cap' * 1, true⟩ : Blk) = ⟨rnL F0 c ρ (u8s (P2 X i) ++ [.int .u8 (bt X.length i)]), t_uint8, cap' * 1, true⟩ := fun c ρ => by
                rw [show [Sc.int .u8 (bt X.length i)] = u8s [bt X.length i] from rfl, u8s_app, P2_succ X hi, rnL_id (ints_cl _ _ 0)]
              refine ⟨8 - (i + 1), F0, tp 4 6, by omega, tp_ok (by exact Nat.le_of_ble_eq_true rfl) (by exact Nat.le_of_ble_eq_true rfl), fun c N1 _ _ => ⟨_, _, wkR_of (by (repeat' apply And.intro) <;> first | trivial | exact ⟨_, rfl, tv_inc (n := 8) hi (by omega), rfl⟩ | exact ⟨_, rfl, rfl, rfl⟩) (by (repeat' apply And.intro) <;> first | trivial | rfl | exact ⟨_, rfl, hblk c _, ints_cl _ _ _⟩ | exact ⟨_, rfl, rfl, rfl⟩) (by exact Nat.le_of_ble_eq_true rfl), ⟨i + 1, cap', N1, hi, rfl, hcap', .inr ⟨by omega, rfl, rfl⟩⟩⟩⟩
            | false =>
              obtain rfl : i = 8 := by have := of_decide_eq_false hlt; omega
              conv => whnf
              refine hK _ _ ?_
              clear hK hR
              rw [P2_8, show X.length + 1 + zc (X.length % 64) + 8 = (padL X).length from (padL_len X).symm]
              rw [show X.length + 1 + zc (X.length % 64) + 8 = (padL X).length from (padL_len X).symm] at hcap
              conv => whnf
              exact ⟨_, _, _, _, rfl, rfl, ints_cl _ _ 0, rfl, hcap, rfl⟩
        · refine ⟨8, F0, ren0, ren0_ok _, fun c N1 _ _ => ⟨_, _, wkR_of (by (repeat' apply And.intro) <;> first | trivial | exact ⟨_, rfl, rfl, rfl⟩) (by (repeat' apply And.intro) <;> first | trivial | rfl | exact ⟨_, rfl, hblk20 c _ _, ints_cl _ _ _⟩ | exact ⟨_, rfl, rfl, rfl⟩) (by exact Nat.le_of_ble_eq_true rfl), ⟨0, cap, N1, by omega, rfl, hcap, .inl ⟨rfl, rfl, rfl⟩⟩⟩⟩

    · conv => whnf
      cases hq : (((X.length + 1 + z : Nat) : Int).tmod 64 != 56) with
      | true =>
        have hzlt : z < zc (X.length % 64) := zp_lt hz hq
        conv => whnf
        refine ⟨[.int .u8 0], rfl, rfl, rfl, ?_⟩
        conv => whnf
        refine ⟨by rw [List.length_map, C1_len, Nat.mul_one], hcap, rfl, rfl, ⟨by unfold zc at hz; omega, by omega⟩, fun cap' hcap' => ?_⟩
        conv => whnf
        have hblk : ∀ (c : Con) (ρ : Ren), (⟨u8s (C1 X (z + 1)), t_uint8, cap' * 1, true⟩ : Blk) = ⟨rnL F0 c ρ (u8s (C1 X z) ++ [.int .u8 0]), t_uint8, cap' * 1, true⟩ := fun c ρ => by
          rw [show [Sc.int .u8 0] = u8s [0] from rfl, u8s_app, C1_succ, rnL_id (ints_cl _ _ 0)]
        refine ⟨zc (X.length % 64) - (z + 1), F0, tp 4 6, by omega, tp_ok (by exact Nat.le_of_ble_eq_true rfl) (by exact Nat.le_of_ble_eq_true rfl), fun c N1 _ _ => ⟨_, _, wkR_of (by (repeat' apply And.intro) <;> first | trivial | exact ⟨_, rfl, rfl, rfl⟩ | exact ⟨_, rfl, (hs.rn' _ _ _).symm, hs.stable.1 _⟩) (by (repeat' apply And.intro) <;> first | trivial | rfl | exact ⟨_, rfl, hblk c _, ints_cl _ _ _⟩ | exact ⟨_, rfl, rfl, rfl⟩) (by exact Nat.le_of_ble_eq_true rfl), ⟨z + 1, cap', N1, hzlt, rfl, hcap', .inr ⟨by omega, rfl, rfl⟩⟩⟩⟩
      | false =>
        have hzeq : z = zc (X.length % 64) := zp_eq hz hq
        subst hzeq
        conv => whnf
        refine hK _ _ ?_
        clear hK hR
        refine swp_cut fun K hK hR _ => ?_
        conv => whnf
        refine hK _ _ ?_
        clear hK hR
        refine swp_cut fun K hK hR _ => ?_
        refine swp_cut fun K2 hK2 hR2 _ => ?_
        conv => whnf
        refine hK2 _ _ ?_
        clear hK2 hR2
        conv => whnf
        refine .inr (loop_invR (gH A _) (PdI2_4 X) ?_ ?_)
        · intro k' e' m' hI
          obtain ⟨i, cap, N, hi8, rfl, hcap, ⟨hi0, rfl, rfl⟩ | ⟨hi0, rfl, rfl⟩⟩ := hI
          · conv => whnf
            cases hlt : decide ((i : Int) < 8) with
            | true =>
              have hi : i < 8 := by have := of_decide_eq_true hlt; omega
              have e8 : wr .i64 (8 * (i : Int)) = .int .i64 ((8 * i : Nat) : Int) := by
                simp only [wr]
                rw [wrapN (n := 8 * i) (by omega) (by omega)]
              have e56 : wr .i64 (56 - ((8 * i : Nat) : Int)) = .int .i64 ((56 - 8 * i : Nat) : Int) := by
                simp only [wr]
                rw [wrapN (n := 56 - 8 * i) (by omega) (by omega)]
              show swpC _ (Code.seq _ _) _ _ _
              refine swp_cut fun K4 hK4 hR4 _ => ?_
              refine swp_block ?_
              iterate 3 (refine aops_step fun T S hT hS => ?_; (conv => whnf); refine hT _ _ ?_)
              refine aops_step fun T S hT hS => ?_
              conv => whnf
              rw [e8]
              refine hT _ _ ?_
              refine aops_step fun T S hT hS => ?_
              conv => whnf
              rw [e56]
              refine hT _ _ ?_
              iterate 3 (refine aops_step fun T S hT hS => ?_; (conv => whnf); refine hT _ _ ?_)
              refine aops_step fun T S hT hS => ?_
              conv => whnf
              refine ⟨[.int .u8 (bt X.length i)], rfl, rfl, rfl, ?_⟩
              conv => whnf
              refine ⟨by rw [List.length_map, P2_len X hi8, Nat.mul_one], hcap, rfl, rfl, ⟨by unfold zc; omega, by omega⟩, fun cap' hcap' => ?_⟩
              conv => whnf
              refine hT _ _ ?_
              refine aops_step fun T S hT hS => ?_
              conv => whnf
              refine hT _ _ ?_
              refine aops_end ?_
              refine hK4 _ _ ?_
              clear hK4 hR4
              conv => whnf
              have hblk : ∀ (c : Con) (ρ : Ren), (⟨u8s (P2 X (i + 1)), t_uint8, cap' * 1, true⟩ : Blk) = ⟨rnL F0 c ρ (u8s (P2 X i) ++ [.int .u8 (bt X.length i)]), t_uint8, cap' * 1, true⟩ := fun c ρ => by
                rw [show [Sc.int .u8 (bt X.length i)] = u8s [bt X.length i] from rfl, u8s_app, P2_succ X hi, rnL_id (ints_cl _ _ 0)]
              refine ⟨8 - (i + 1), F0, tp 5 6, by omega, tp_ok (by exact Nat.le_of_ble_eq_true rfl) (by exact Nat.le_of_ble_eq_true rfl), fun c N1 _ _ => ⟨_, _, wkR_of (by (repeat' apply And.intro) <;> first | trivial | exact ⟨_, rfl, tv_inc (n := 8) hi (by omega), rfl⟩ | exact ⟨_, rfl, rfl, rfl⟩) (by (repeat' apply And.intro) <;> first | trivial | rfl | exact ⟨_, rfl, hblk c _, ints_cl _ _ _⟩ | exact ⟨_, rfl, rfl, rfl⟩) (by exact Nat.le_of_ble_eq_true rfl), ⟨i + 1, cap', N1, hi, rfl, hcap', .inr ⟨by omega, rfl, rfl⟩⟩⟩⟩
            | false =>
              exact absurd (of_decide_eq_false hlt) (by omega)
          · conv => whnf
            cases hlt : decide ((i : Int) < 8) with
            | true =>
              have hi : i < 8 := by have := of_decide_eq_true hlt; omega
              have e8 : wr .i64 (8 * (i : Int)) = .int .i64 ((8 * i : Nat) : Int) := by
                simp only [wr]
                rw [wrapN (n := 8 * i) (by omega) (by omega)]
              have e56 : wr .i64 (56 - ((8 * i : Nat) : Int)) = .int .i64 ((56 - 8 * i : Nat) : Int) := by
                simp only [wr]
                rw [wrapN (n := 56 - 8 * i) (by omega) (by omega)]
              show swpC _ (Code.seq _ _) _ _ _
              refine swp_cut fun K4 hK4 hR4 _ => ?_
              refine swp_block ?_
              iterate 3 (refine aops_step fun T S hT hS => ?_; (conv => whnf); refine hT _ _ ?_)
              refine aops_step fun T S hT hS => ?_
              conv => whnf
              rw [e8]
              refine hT _ _ ?_
              refine aops_step fun T S hT hS => ?_
              conv => whnf
              rw [e56]
              refine hT _ _ ?_
              iterate 3 (refine aops_step fun T S hT hS => ?_; (conv => whnf); refine hT _ _ ?_)
              refine aops_step fun T S hT hS => ?_
              conv => whnf
              refine ⟨[.int .u8 (bt X.length i)], rfl, rfl, rfl, ?_⟩
              conv => whnf
              refine ⟨by rw [List.length_map, P2_len X hi8, Nat.mul_one], hcap, rfl, rfl, ⟨by unfold zc; omega, by omega⟩, fun cap' hcap' => ?_⟩
              conv => whnf
              refine hT _ _ ?_
              refine aops_step fun T S hT hS => ?_
              conv => whnf
              refine hT _ _ ?_
              refine aops_end ?_
              refine hK4 _ _ ?_
              clear hK4 hR4
              conv => whnf
              have hblk : ∀ (c : Con) (ρ : Ren), (⟨u8s (P2 X (i + 1)), t_uint8, cap' * 1, true⟩ : Blk) = ⟨rnL F0 c ρ (u8s (P2 X i) ++ [.int .u8 (bt X.length i)]), t_uint8, cap' * 1, true⟩ := fun c ρ => by
                rw [show [Sc.int .u8 (bt X.length i)] = u8s [bt X.length i] from rfl, u8s_app, P2_succ X hi, rnL_id (ints_cl _ _ 0)]
              refine ⟨8 - (i + 1), F0, tp 5 7, by omega, tp_ok (by exact Nat.le_of_ble_eq_true rfl) (by exact Nat.le_of_ble_eq_true rfl), fun c N1 _ _ => ⟨_, _, wkR_of (by (repeat' apply And.intro) <;> first | trivial | exact ⟨_, rfl, tv_inc (n := 8) hi (by omega), rfl⟩ | exact ⟨_, rfl, rfl, rfl⟩) (by (repeat' apply And.intro) <;> first | trivial | rfl | exact ⟨_, rfl, hblk c _, ints_cl _ _ _⟩ | exact ⟨_, rfl, rfl, rfl⟩) (by exact Nat.le_of_ble_eq_true rfl), ⟨i + 1, cap', N1, hi, rfl, hcap', .inr ⟨by omega, rfl, rfl⟩⟩⟩⟩
            | false =>
              obtain rfl : i = 8 := by have := of_decide_eq_false hlt; omega
              conv => whnf
              refine hK _ _ ?_
              clear hK hR
              rw [P2_8, show X.length + 1 + zc (X.length % 64) + 8 = (padL X).length from (padL_len X).symm]
              rw [show X.length + 1 + zc (X.length % 64) + 8 = (padL X).length from (padL_len X).symm] at hcap
              conv => whnf
              exact ⟨_, _, _, _, rfl, rfl, ints_cl _ _ 0, rfl, hcap, rfl⟩
        · refine ⟨8, F0, ren0, ren0_ok _, fun c N1 _ _ => ⟨_, _, wkR_of (by (repeat' apply And.intro) <;> first | trivial | exact ⟨_, rfl, rfl, rfl⟩) (by (repeat' apply And.intro) <;> first | trivial | rfl | exact ⟨_, rfl, hblk20 c _ _, ints_cl _ _ _⟩ | exact ⟨_, rfl, rfl, rfl⟩) (by exact Nat.le_of_ble_eq_true rfl), ⟨0, cap, N1, by omega, rfl, hcap, .inl ⟨rfl, rfl, rfl⟩⟩⟩⟩

  · refine ⟨zc (X.length % 64), F0, ren0, ren0_ok _, fun c N1 _ _ => ⟨_, _, wkR_of (by (repeat' apply And.intro) <;> first | trivial | exact ⟨_, rfl, rfl, rfl⟩ | exact ⟨_, rfl, (hs.rn' _ _ _).symm, hs.stable.1 _⟩) (by (repeat' apply And.intro) <;> first | trivial | rfl | exact ⟨_, rfl, hblk10 c _ _, ints_cl _ _ _⟩ | exact ⟨_, rfl, rfl, rfl⟩) (by exact Nat.le_of_ble_eq_true rfl), ⟨0, cap2, N1, Nat.zero_le _, rfl, hcap2, .inl ⟨rfl, rfl, rfl⟩⟩⟩⟩

end Go.Hv
