import Derived.Test.YtmappjgknpldpaaFeBy
import Derived.Test.YtmappjgknpldpaaScBk
namespace Go.Hv
open Go.Ev

def CmE4 (j : Nat) (cap : Nat) : Env := [(25, .one (.int .i64 (j : Int))), (24, .one (.int .i64 ((32 : Nat) : Int))), (7, .one (.slice (some (.loc 4 0)) 32 cap)), (6, .one (.ptr (some (.loc 3 0)))), (5, .one (.ptr (some (.loc 2 0)))), (4, .one (.bool false)), (3, .one (.ptr (some (.loc 1 0)))), (2, .one (.ptr (some (.loc 0 0))))]

def CmI4 (x l0 l1 l2 l3 m0 m1 m2 m3 : Int) (cap : Nat) (k : Nat) (e : Env) (m : HM) : Prop :=
  ∃ (j t0 t1 t2 t3 : Nat) (N : Base), j ≤ 32 ∧ k = 32 - j ∧ e = CmE4 j cap ∧
    m = ⟨[some ⟨words x, t0, 0, false⟩, some ⟨bcsL l0 l1 l2 l3, t1, 0, false⟩, some ⟨dcells mdN, t2, 0, false⟩, some ⟨bcsL m0 m1 m2 m3, t3, 0, false⟩, some ⟨bcsL m0 m1 m2 m3, 5, cap * 1, true⟩], N⟩

def ClE4 (j : Nat) (sl : TV) : Env := [(37, .one (.int .i64 (j : Int))), (9, sl), (5, .one (.ptr (some (.loc 2 0)))), (4, .one (.bool false)), (3, .one (.ptr (some (.loc 1 0)))), (2, .one (.ptr (some (.loc 0 0))))]
def ClB4 (x l0 l1 l2 l3 : Int) (t0 t1 t2 : Nat) : Mem := [some ⟨words x, t0, 0, false⟩, some ⟨bcsL l0 l1 l2 l3, t1, 0, false⟩, some ⟨dcells mdN, t2, 0, false⟩, none, none]

def ClI4 (x l0 l1 l2 l3 : Int) (k : Nat) (e : Env) (m : HM) : Prop :=
  ∃ (j t0 t1 t2 : Nat) (N : Base), j ≤ 32 ∧ k = 32 - j ∧
    ((j = 0 ∧ e = ClE4 0 (.one (.slice none 0 0)) ∧ m = ⟨ClB4 x l0 l1 l2 l3 t0 t1 t2, N⟩) ∨
      (0 < j ∧ ∃ cap, j ≤ cap ∧ e = ClE4 j (.one (.slice (some (.loc 5 0)) j cap)) ∧
        m = ⟨[some ⟨words x, t0, 0, false⟩, some ⟨bcsL l0 l1 l2 l3, t1, 0, false⟩, some ⟨dcells mdN, t2, 0, false⟩, none, none, some ⟨(bcsL l0 l1 l2 l3).take j, 5, cap * 1, true⟩], N⟩))

set_option maxHeartbeats 400000 in
set_option maxRecDepth 100000 in
theorem lawScBytes_fn {x y : Int} (hx : InW x) (hy : InW y) : Ev.Fn PG f_law04_ScalarBytes [W x, .agg (bcs4 y)] (.one (.bool true)) := by
  refine fn_startH (fun _ => none) h_law04_ScalarBytes rfl (by kernel_rfl) (fun _ => by kernel_rfl) rfl rfl fun A => ?_
  obtain ⟨l0, l1, l2, l3, h0, h1, h2, h3, rfl⟩ := split4 hy
  have cR := scReduce_fn h0 h1 h2 h3
  have cA := scRead_fn h0 h1 h2 h3
  rw [← bcsL_val h0 h1 h2 h3]
  have hxp : InW (x % nn) := ⟨by unfold nn; omega, by unfold nn; omega⟩
  have c1 := refN_fn
  have c2 := refOfScalar_fn x
  have c3 := refNorm_fn mdN_ok hx
  rw [mdN_M] at c3
  have c4 := scBytes_fn hx
  obtain ⟨m0, m1, m2, m3, i0, i1, i2, i3, em⟩ := split4 hxp
  have c5 : ∀ B, HCO PG B f_ref03_Bytes [.agg [u m0, u m1, u m2, u m3]] fun n cap k _ => n = 32 ∧ 32 ≤ cap ∧ k = ⟨bcsL m0 m1 m2 m3, 5, cap * 1, true⟩ := fun B => by
    have := @r3Bytes_hco B m0 m1 m2 m3 i0 i1 i2 i3
    rwa [W, words_val i0 i1 i2 i3] at this
  rw [em] at c3 c4
  rw [← bcsL_val i0 i1 i2 i3] at c4
  have em' : W (x % nn) = .agg [u m0, u m1, u m2, u m3] := by rw [em, W, words_val i0 i1 i2 i3]
  rw [← em, em'] at c3
  refine swp_cut fun K hK hR _ => ?_
  conv => whnf
  refine hK _ _ ?_
  clear hK hR
  refine swp_cut fun K hK hR _ => ?_
  conv => whnf
  refine ⟨_, c1, rfl, ?_⟩
  conv => whnf
  refine hK _ _ ?_
  clear hK hR
  refine swp_cut fun K hK hR _ => ?_
  conv => whnf
  refine ⟨_, c4, rfl, ?_⟩
  conv => whnf
  refine hK _ _ ?_
  clear hK hR
  refine swp_cut fun K hK hR _ => ?_
  conv => whnf
  refine ⟨_, c2, rfl, ?_⟩
  conv => whnf
  refine ⟨_, c3, rfl, ?_⟩
  conv => whnf
  refine ⟨fun n cap k _ => n = 32 ∧ 32 ≤ cap ∧ k = ⟨bcsL m0 m1 m2 m3, 5, cap * 1, true⟩, fun c B hB hL => c5 B, ⟨32, 32, ⟨bcsL m0 m1 m2 m3, 5, 32 * 1, true⟩, B0, rfl, rfl, Nat.le_refl _, rfl⟩, ?_⟩
  rintro n cap k N' _ ⟨rfl, hcap, rfl⟩ N1 _
  conv => whnf
  refine hK _ _ ?_
  clear hK hR
  refine swp_cut fun K hK hR _ => ?_
  refine swp_cut fun K2 hK2 _ _ => ?_
  conv => whnf
  refine hK2 _ _ ?_
  clear hK2
  conv => whnf
  refine .inr (loop_invC (gH A _) (CmI4 x l0 l1 l2 l3 m0 m1 m2 m3 cap) ?_ ?_)
  · intro k' e' m' hI
    obtain ⟨j, t0, t1, t2, t3, N, hj32, rfl, rfl, rfl⟩ := hI
    conv => whnf
    cases hlt : decide ((j : Int) < ((32 : Nat) : Int)) with
    | true =>
      have hj : j < 32 := by have := of_decide_eq_true hlt; omega
      obtain ⟨z, tk⟩ := bcsL_take m0 m1 m2 m3 hj
      conv => whnf
      rw [dec_idx (n := 32) hj]
      conv => whnf
      conv in (takeAt _ _ _) => change takeAt (bcsL m0 m1 m2 m3) (0 + j * 1) 1; rw [tk]
      conv => whnf
      rw [dec_idx (n := 32) hj]
      conv => whnf
      conv in (takeAt _ _ _) => change takeAt (bcsL m0 m1 m2 m3) (0 + j * 1) 1; rw [tk]
      conv => whnf
      have hzz : (z != z) = false := by simp
      rw [hzz]
      conv => whnf
      refine ⟨32 - (j + 1), F0, by omega, fun c N1 _ _ => ⟨_, _, wk_of (by (repeat' apply And.intro) <;> first | trivial | exact ⟨_, rfl, tv_inc (n := 32) hj (by omega), rfl⟩ | exact ⟨_, rfl, rfl, rfl⟩) (by (repeat' apply And.intro) <;> first | trivial | rfl | exact ⟨_, rfl, rfl, rfl⟩) (by exact Nat.le_of_ble_eq_true rfl) (by exact Nat.le_of_ble_eq_true rfl), ⟨j + 1, t0, t1, t2, t3, N1, hj, rfl, rfl, rfl⟩⟩⟩
    | false =>
      have : j = 32 := by have := of_decide_eq_false hlt; omega
      subst this
      conv => whnf
      refine hK _ _ ?_
      clear hK hR
      have hcl := bcsL_cl' l0 l1 l2 l3
      refine swp_cut fun K hK hR _ => ?_
      conv => whnf
      refine hK _ _ ?_
      clear hK hR
      refine swp_cut fun K hK hR _ => ?_
      conv => whnf
      refine .inr (loop_invR (gH A _) (ClI4 x l0 l1 l2 l3) ?_ ?_)
      · intro k' e' m' hI
        obtain ⟨j, t0, t1, t2, N, hj32, rfl, hcase⟩ := hI
        rcases hcase with ⟨rfl, rfl, rfl⟩ | ⟨hj0, cap, hcap, rfl, rfl⟩
        · have hj : 0 < 32 := by omega
          have hblk : ∀ (c : Con) (ρ : Ren) (cap : Nat), (⟨(bcsL l0 l1 l2 l3).take (0 + 1), 5, cap * 1, true⟩ : Blk) = ⟨rnL F0 c ρ [(bcsL l0 l1 l2 l3)[0]], 5, cap * 1, true⟩ := fun c ρ cap => by rw [rnL_id rfl]; rfl
          conv => whnf
          refine ⟨[_], rfl, rfl, rfl, ?_⟩
          conv => whnf
          refine ⟨cap_bytes (by omega), by omega, fun cap' hcap' => ?_⟩
          conv => whnf
          refine ⟨31, F0, tp 5 6, by omega, tp_ok (by exact Nat.le_of_ble_eq_true rfl) (by exact Nat.le_of_ble_eq_true rfl), fun c N1 _ _ => ⟨_, _, wkR_of (by (repeat' apply And.intro) <;> first | trivial | exact ⟨_, rfl, tv_inc (n := 32) hj (by omega), rfl⟩ | exact ⟨_, rfl, rfl, rfl⟩) (by (repeat' apply And.intro) <;> first | trivial | rfl | exact ⟨_, rfl, rfl, rfl⟩ | exact ⟨_, rfl, hblk c (tp 5 6) cap', take_cl hcl _⟩) (by exact Nat.le_of_ble_eq_true rfl), ⟨1, t0, t1, t2, N1, by omega, rfl, .inr ⟨by omega, cap', hcap', rfl, rfl⟩⟩⟩⟩
        · conv => whnf
          cases hlt : decide ((j : Int) < 32) with
          | true =>
            have hj : j < 32 := by have := of_decide_eq_true hlt; omega
            have hj' : j < (bcsL l0 l1 l2 l3).length := by rw [show (bcsL l0 l1 l2 l3).length = 32 from rfl]; exact hj
            have tk := take1 (l := bcsL l0 l1 l2 l3) (j := j) hj'
            have hlen : ((bcsL l0 l1 l2 l3).take j).length = j * 1 := by rw [List.length_take, show (bcsL l0 l1 l2 l3).length = 32 from rfl]; omega
            have hcl1 : closedL 0 [(bcsL l0 l1 l2 l3)[j]'hj'] = true := closedL_iff.2 fun s hs => by
              simp only [List.mem_singleton] at hs
              subst hs
              exact closedL_iff.1 hcl _ (List.getElem_mem _)
            generalize hcj : (bcsL l0 l1 l2 l3)[j]'hj' = cj at *
            have hblk : ∀ (c : Con) (ρ : Ren) (cap : Nat), (⟨(bcsL l0 l1 l2 l3).take (j + 1), 5, cap * 1, true⟩ : Blk) = ⟨rnL F0 c ρ ((bcsL l0 l1 l2 l3).take j ++ [cj]), 5, cap * 1, true⟩ := fun c ρ cap => by
              rw [← hcj, take_snoc, rnL_id (take_cl hcl _)]
            conv => whnf
            rw [dec_idx (n := 32) hj]
            conv => whnf
            conv in (takeAt _ _ _) => change takeAt (bcsL l0 l1 l2 l3) (0 + j * 1) 1; rw [tk]
            conv => whnf
            refine ⟨[_], rfl, rfl, rfl, ?_⟩
            conv => whnf
            refine ⟨hlen, hcap, rfl, rfl, cap_bytes (by omega), fun cap' hcap' => ?_⟩
            conv => whnf
            refine ⟨32 - (j + 1), F0, tp 5 7, by omega, tp_ok (by exact Nat.le_of_ble_eq_true rfl) (by exact Nat.le_of_ble_eq_true rfl), fun c N1 _ _ => ⟨_, _, wkR_of (by (repeat' apply And.intro) <;> first | trivial | exact ⟨_, rfl, tv_inc (n := 32) hj (by omega), rfl⟩ | exact ⟨_, rfl, rfl, rfl⟩) (by (repeat' apply And.intro) <;> first | trivial | rfl | exact ⟨_, rfl, rfl, rfl⟩ | exact ⟨_, rfl, hblk c (tp 5 7) cap', take_cl hcl _⟩) (by exact Nat.le_of_ble_eq_true rfl), ⟨j + 1, t0, t1, t2, N1, hj, rfl, .inr ⟨by omega, cap', hcap', rfl, rfl⟩⟩⟩⟩
          | false =>
            have : j = 32 := by have := of_decide_eq_false hlt; omega
            subst this
            conv => whnf
            refine hK _ _ ?_
            clear hK hR
            refine swp_cut fun K hK hR _ => ?_
            conv => whnf
            refine ⟨fun v _ => v = W (val l0 l1 l2 l3), fun c B hB hL => r3Number_hc h0 h1 h2 h3 (sl_lent (b := 5) (o := 0) (L := ones (bcsL l0 l1 l2 l3)) (post := []) hL rfl (take_cl hcl 32) (by rw [ones_flat]; rfl) rfl hcap (by show 32 ≤ 140737488355128; omega) (ones_es _)), ⟨_, B0, rfl, rfl⟩, ?_⟩
            rintro v N' _ rfl N1 _
            have cb := r3Right_fn' mdN_ok hy
            have cf := refScalar_fn (val l0 l1 l2 l3)
            have cg := refScalar_fn (val l0 l1 l2 l3 % nn)
            have cn := refNorm_fn mdN_ok hy
            have ca := alive4_fn
            have cr : Ev.Fn PG f_scalar_Reduce [.agg (bcsL l0 l1 l2 l3)] (W (val l0 l1 l2 l3 % nn)) := cR
            rw [mdN_M] at cn
            generalize val l0 l1 l2 l3 = y at *
            have lt : decide (y < nn) = decide (y % nn = y) := by
              have : InW y := hy
              apply decide_eq_decide.2
              unfold nn
              constructor <;> intro h <;> omega
            rw [mdN_M, lt] at cb
            conv => whnf
            refine hK _ _ ?_
            clear hK hR
            refine swp_cut fun K hK hR _ => ?_
            conv => whnf
            refine ⟨_, cb, rfl, ?_⟩
            conv => whnf
            refine hK _ _ ?_
            clear hK hR
            refine swp_cut fun K hK hR _ => ?_
            conv => whnf
            refine ⟨_, cA, rfl, ?_⟩
            conv => whnf
            refine hK _ _ ?_
            clear hK hR
            refine swp_cut fun K1 hK1 hR1 _ => swp_cut fun K hK hR _ => ?_
            unfold readN
            by_cases hd : y % nn = y
            · rw [if_pos hd, decide_eq_true hd]
              repeat (refine aops_step fun T S hT hS => ?_; (conv => whnf); (try rw [weq_self]); first | refine hT _ _ ?_ | refine hS ?_ | (refine ⟨_, cf, rfl, ?_⟩; refine hT _ _ ?_))
              refine aops_end ?_
              refine hK _ _ ?_
              conv => whnf
              refine hK1 _ _ ?_
              clear hK1 hR1
              clear hK hR
              refine swp_cut fun K hK hR _ => ?_
              repeat (refine aops_step fun T S hT hS => ?_; (conv => whnf); (try rw [weq_self]); first | refine hT _ _ ?_ | refine hS ?_ | (refine ⟨_, cr, rfl, ?_⟩; refine hT _ _ ?_) | (refine ⟨_, cn, rfl, ?_⟩; refine hT _ _ ?_) | (refine ⟨_, cg, rfl, ?_⟩; refine hT _ _ ?_) | (refine ⟨_, ca, rfl, ?_⟩; refine hT _ _ ?_))
              refine aops_end ?_
              refine hK _ _ ?_
              conv => whnf
              intro c N2 _ _
              rfl
            · rw [if_neg hd, decide_eq_false hd]
              repeat (refine aops_step fun T S hT hS => ?_; (conv => whnf); (try rw [weq_self]); first | refine hT _ _ ?_ | refine hS ?_ | (refine ⟨_, cf, rfl, ?_⟩; refine hT _ _ ?_))
              refine aops_end ?_
              refine hK _ _ ?_
              conv => whnf
              refine hK1 _ _ ?_
              clear hK1 hR1
              clear hK hR
              refine swp_cut fun K hK hR _ => ?_
              repeat (refine aops_step fun T S hT hS => ?_; (conv => whnf); (try rw [weq_self]); first | refine hT _ _ ?_ | refine hS ?_ | (refine ⟨_, cr, rfl, ?_⟩; refine hT _ _ ?_) | (refine ⟨_, cn, rfl, ?_⟩; refine hT _ _ ?_) | (refine ⟨_, cg, rfl, ?_⟩; refine hT _ _ ?_) | (refine ⟨_, ca, rfl, ?_⟩; refine hT _ _ ?_))
              refine aops_end ?_
              refine hK _ _ ?_
              conv => whnf
              intro c N2 _ _
              rfl
      · refine ⟨32, F0, ren0, ren0_ok _, fun c N1 _ _ => ⟨_, _, wkR_of (by (repeat' apply And.intro) <;> first | trivial | exact ⟨_, rfl, rfl, rfl⟩) (by (repeat' apply And.intro) <;> first | trivial | rfl | exact ⟨_, rfl, rfl, rfl⟩) (by exact Nat.le_of_ble_eq_true rfl), ⟨0, _, _, _, N1, by omega, rfl, .inl ⟨rfl, rfl, rfl⟩⟩⟩⟩
  · refine ⟨32, F0, fun c N1 _ _ => ⟨_, _, wk_of (by (repeat' apply And.intro) <;> first | trivial | exact ⟨_, rfl, rfl, rfl⟩) (by (repeat' apply And.intro) <;> first | trivial | rfl | exact ⟨_, rfl, rfl, rfl⟩) (by exact Nat.le_of_ble_eq_true rfl) (by exact Nat.le_of_ble_eq_true rfl), ⟨0, _, _, _, _, N1, by omega, rfl, rfl, rfl⟩⟩⟩

end Go.Hv
