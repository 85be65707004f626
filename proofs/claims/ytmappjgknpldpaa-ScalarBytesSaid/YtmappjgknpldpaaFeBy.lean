import Derived.Test.YtmappjgknpldpaaBy4
import Derived.Test.YtmappjgknpldpaaRfA
import Derived.Test.YtmappjgknpldpaaBy5
import Derived.Test.YtmappjgknpldpaaAl3
namespace Go.Hv
open Go.Ev

theorem r3Right_fn' {D : MD} (hD : D.Ok) {x : Int} (hx : InW x) : Ev.Fn PG f_ref03_Right [D.tv, W x] (.one (.bool (decide (x < D.M)))) := by
  refine fn_startH (fun _ => none) h_ref03_Right rfl (by kernel_rfl) (fun _ => by kernel_rfl) rfl rfl fun A => ?_
  have c1 := refBelow_fn hx hD.inW
  have hw : W D.M = .agg [u D.m0, u D.m1, u D.m2, u D.m3] := by unfold W; rw [hD.words]
  rw [hw] at c1
  refine swp_cut fun K hK hR _ => ?_
  conv => whnf
  refine hK _ _ ?_
  clear hK hR
  refine swp_cut fun K hK hR _ => ?_
  conv => whnf
  refine ⟨_, c1, rfl, ?_⟩
  conv => whnf
  refine hK _ _ ?_
  clear hK hR
  conv => whnf
  intro c N2 _ _
  rfl

theorem bcsL_int (l0 l1 l2 l3 : Int) : ∀ s ∈ bcsL l0 l1 l2 l3, ∃ z, s = .int .u8 z := fun s hs => by
  simp only [bcsL, bq, List.mem_cons, List.not_mem_nil, or_false] at hs
  rcases hs with h | h | h | h | h | h | h | h | h | h | h | h | h | h | h | h | h | h | h | h | h | h | h | h | h | h | h | h | h | h | h | h <;> exact ⟨_, h⟩

theorem bcsL_take (l0 l1 l2 l3 : Int) {j : Nat} (hj : j < 32) : ∃ z, takeAt (bcsL l0 l1 l2 l3) (0 + j * 1) 1 = some [.int .u8 z] := by
  have h : j < (bcsL l0 l1 l2 l3).length := hj
  obtain ⟨z, hz⟩ := bcsL_int l0 l1 l2 l3 _ (List.getElem_mem h)
  exact ⟨z, by rw [take1 h, hz]⟩

def CmE (j : Nat) (cap : Nat) : Env := [(27, .one (.int .i64 (j : Int))), (26, .one (.int .i64 ((32 : Nat) : Int))), (8, .one (.slice (some (.loc 5 0)) 32 cap)), (7, .one (.ptr (some (.loc 4 0)))), (6, .one (.ptr (some (.loc 3 0)))), (5, .one (.ptr (some (.loc 2 0)))), (4, .one (.bool false)), (3, .one (.ptr (some (.loc 1 0)))), (2, .one (.ptr (some (.loc 0 0))))]

def CmI (x l0 l1 l2 l3 m0 m1 m2 m3 : Int) (cap : Nat) (k : Nat) (e : Env) (m : HM) : Prop :=
  ∃ (j t0 t1 t2 t3 t4 : Nat) (N : Base), j ≤ 32 ∧ k = 32 - j ∧ e = CmE j cap ∧
    m = ⟨[some ⟨words x, t0, 0, false⟩, some ⟨bcsL l0 l1 l2 l3, t1, 0, false⟩, some ⟨dcells mdP, t2, 0, false⟩, some ⟨[u m0, u m1, u m2, u m3], t3, 0, false⟩, some ⟨bcsL m0 m1 m2 m3, t4, 0, false⟩, some ⟨bcsL m0 m1 m2 m3, 5, cap * 1, true⟩], N⟩

def ClE (j : Nat) (sl : TV) (ok : Bool) : Env := [(44, .one (.int .i64 (j : Int))), (12, sl), (11, .one (.bool ok)), (10, .one (.ptr (some (.loc 6 0)))), (6, .one (.ptr (some (.loc 3 0)))), (5, .one (.ptr (some (.loc 2 0)))), (4, .one (.bool false)), (3, .one (.ptr (some (.loc 1 0)))), (2, .one (.ptr (some (.loc 0 0))))]
def ClB (x l0 l1 l2 l3 m0 m1 m2 m3 n : Int) (t0 t1 t2 t3 t6 : Nat) : Mem := [some ⟨words x, t0, 0, false⟩, some ⟨bcsL l0 l1 l2 l3, t1, 0, false⟩, some ⟨dcells mdP, t2, 0, false⟩, some ⟨[u m0, u m1, u m2, u m3], t3, 0, false⟩, none, none, some ⟨words n, t6, 0, false⟩]

def ClI (x l0 l1 l2 l3 m0 m1 m2 m3 n : Int) (ok : Bool) (k : Nat) (e : Env) (m : HM) : Prop :=
  ∃ (j t0 t1 t2 t3 t6 : Nat) (N : Base), j ≤ 32 ∧ k = 32 - j ∧
    ((j = 0 ∧ e = ClE 0 (.one (.slice none 0 0)) ok ∧ m = ⟨ClB x l0 l1 l2 l3 m0 m1 m2 m3 n t0 t1 t2 t3 t6, N⟩) ∨
      (0 < j ∧ ∃ cap, j ≤ cap ∧ e = ClE j (.one (.slice (some (.loc 7 0)) j cap)) ok ∧
        m = ⟨[some ⟨words x, t0, 0, false⟩, some ⟨bcsL l0 l1 l2 l3, t1, 0, false⟩, some ⟨dcells mdP, t2, 0, false⟩, some ⟨[u m0, u m1, u m2, u m3], t3, 0, false⟩, none, none, some ⟨words n, t6, 0, false⟩, some ⟨(bcsL l0 l1 l2 l3).take j, 5, cap * 1, true⟩], N⟩))

theorem bcsL_cl' (l0 l1 l2 l3 : Int) : closedL 0 (bcsL l0 l1 l2 l3) = true := rfl

set_option maxHeartbeats 400000 in
set_option maxRecDepth 100000 in
theorem lawFeBytes_fn {x y : Int} (hx : InW x) (hy : InW y) : Ev.Fn PG f_law03_FeBytes [W x, .agg (bcs4 y)] (.one (.bool true)) := by
  refine fn_startH (fun _ => none) h_law03_FeBytes rfl (by kernel_rfl) (fun _ => by kernel_rfl) rfl rfl fun A => ?_
  obtain ⟨l0, l1, l2, l3, h0, h1, h2, h3, rfl⟩ := split4 hy
  rw [← bcsL_val h0 h1 h2 h3]
  have hxp : InW (x % pp) := ⟨by unfold pp; omega, by unfold pp; omega⟩
  have c1 := refP_fn
  have c2 := refOf_fn x
  have c3 := refNorm_fn mdP_ok hx
  rw [mdP_M] at c3
  have c4 := feBytes_fn hx
  obtain ⟨m0, m1, m2, m3, i0, i1, i2, i3, em⟩ := split4 hxp
  have c5 : ∀ B, HCO PG B f_ref03_Bytes [.agg [u m0, u m1, u m2, u m3]] fun n cap k _ => n = 32 ∧ 32 ≤ cap ∧ k = ⟨bcsL m0 m1 m2 m3, 5, cap * 1, true⟩ := fun B => by
    have := @r3Bytes_hco B m0 m1 m2 m3 i0 i1 i2 i3
    rwa [W, words_val i0 i1 i2 i3] at this
  rw [em] at c3 c4
  rw [← bcsL_val i0 i1 i2 i3] at c4
  have em' : W (x % pp) = .agg [u m0, u m1, u m2, u m3] := by rw [em, W, words_val i0 i1 i2 i3]
  rw [← em, em'] at c3
  refine swp_cut fun K hK hR _ => ?_
  conv => whnf
  refine hK _ _ ?_
  clear hK hR
  refine swp_cut fun K hK hR _ => ?_
  conv => whnf
  refine ⟨_, c1, rfl, ?_⟩
  conv => whnf
  refine hK _ _ ?_
  clear hK hR
  refine swp_cut fun K hK hR _ => ?_
  conv => whnf
  refine ⟨_, c2, rfl, ?_⟩
  conv => whnf
  refine ⟨_, c3, rfl, ?_⟩
  conv => whnf
  refine hK _ _ ?_
  clear hK hR
  refine swp_cut fun K hK hR _ => ?_
  conv => whnf
  refine ⟨_, c4, rfl, ?_⟩
  conv => whnf
  refine hK _ _ ?_
  clear hK hR
  refine swp_cut fun K hK hR _ => ?_
  conv => whnf
  refine ⟨fun n cap k _ => n = 32 ∧ 32 ≤ cap ∧ k = ⟨bcsL m0 m1 m2 m3, 5, cap * 1, true⟩, fun c B hB hL => c5 B, ⟨32, 32, ⟨bcsL m0 m1 m2 m3, 5, 32 * 1, true⟩, B0, rfl, rfl, Nat.le_refl _, rfl⟩, ?_⟩
  rintro n cap k N' _ ⟨rfl, hcap, rfl⟩ N1 _
  conv => whnf
  refine hK _ _ ?_
  clear hK hR
  refine swp_cut fun K hK hR _ => ?_
  refine swp_cut fun K2 hK2 _ _ => ?_
  conv => whnf
  refine hK2 _ _ ?_
  clear hK2
  conv => whnf
  refine .inr (loop_invC (gH A _) (CmI x l0 l1 l2 l3 m0 m1 m2 m3 cap) ?_ ?_)
  · intro k' e' m' hI
    obtain ⟨j, t0, t1, t2, t3, t4, N, hj32, rfl, rfl, rfl⟩ := hI
    conv => whnf
    cases hlt : decide ((j : Int) < ((32 : Nat) : Int)) with
    | true =>
      have hj : j < 32 := by have := of_decide_eq_true hlt; omega
      obtain ⟨z, tk⟩ := bcsL_take m0 m1 m2 m3 hj
      conv => whnf
      rw [dec_idx (n := 32) hj]
      conv => whnf
      conv in (takeAt _ _ _) => change takeAt (bcsL m0 m1 m2 m3) (0 + j * 1) 1; rw [tk]
      conv => whnf
      rw [dec_idx (n := 32) hj]
      conv => whnf
      conv in (takeAt _ _ _) => change takeAt (bcsL m0 m1 m2 m3) (0 + j * 1) 1; rw [tk]
      conv => whnf
      have hzz : (z != z) = false := by simp
      rw [hzz]
      conv => whnf
      refine ⟨32 - (j + 1), F0, by omega, fun c N1 _ _ => ⟨_, _, wk_of (by (repeat' apply And.intro) <;> first | trivial | exact ⟨_, rfl, tv_inc (n := 32) hj (by omega), rfl⟩ | exact ⟨_, rfl, rfl, rfl⟩) (by (repeat' apply And.intro) <;> first | trivial | rfl | exact ⟨_, rfl, rfl, rfl⟩) (by exact Nat.le_of_ble_eq_true rfl) (by exact Nat.le_of_ble_eq_true rfl), ⟨j + 1, t0, t1, t2, t3, t4, N1, hj, rfl, rfl, rfl⟩⟩⟩
    | false =>
      have : j = 32 := by have := of_decide_eq_false hlt; omega
      subst this
      conv => whnf
      refine hK _ _ ?_
      clear hK hR
      have hcl := bcsL_cl' l0 l1 l2 l3
      have c6 := feRead_fn h0 h1 h2 h3
      refine swp_cut fun K hK hR _ => ?_
      conv => whnf
      refine ⟨_, c6, rfl, ?_⟩
      conv => whnf
      refine hK _ _ ?_
      clear hK hR
      generalize hrd : readP (val l0 l1 l2 l3) = rd at *
      obtain ⟨n, ok⟩ := rd
      refine swp_cut fun K hK hR _ => ?_
      conv => whnf
      refine hK _ _ ?_
      clear hK hR
      refine swp_cut fun K hK hR _ => ?_
      conv => whnf
      refine .inr (loop_invR (gH A _) (ClI x l0 l1 l2 l3 m0 m1 m2 m3 n ok) ?_ ?_)
      · intro k' e' m' hI
        obtain ⟨j, t0, t1, t2, t3, t6, N, hj32, rfl, hcase⟩ := hI
        rcases hcase with ⟨rfl, rfl, rfl⟩ | ⟨hj0, cap, hcap, rfl, rfl⟩
        · have hj : 0 < 32 := by omega
          have hblk : ∀ (c : Con) (ρ : Ren) (cap : Nat), (⟨(bcsL l0 l1 l2 l3).take (0 + 1), 5, cap * 1, true⟩ : Blk) = ⟨rnL F0 c ρ [(bcsL l0 l1 l2 l3)[0]], 5, cap * 1, true⟩ := fun c ρ cap => by rw [rnL_id rfl]; rfl
          conv => whnf
          refine ⟨[_], rfl, rfl, rfl, ?_⟩
          conv => whnf
          refine ⟨cap_bytes (by omega), by omega, fun cap' hcap' => ?_⟩
          conv => whnf
          refine ⟨31, F0, tp 7 8, by omega, tp_ok (by exact Nat.le_of_ble_eq_true rfl) (by exact Nat.le_of_ble_eq_true rfl), fun c N1 _ _ => ⟨_, _, wkR_of (by (repeat' apply And.intro) <;> first | trivial | exact ⟨_, rfl, tv_inc (n := 32) hj (by omega), rfl⟩ | exact ⟨_, rfl, rfl, rfl⟩) (by (repeat' apply And.intro) <;> first | trivial | rfl | exact ⟨_, rfl, rfl, rfl⟩ | exact ⟨_, rfl, hblk c (tp 7 8) cap', take_cl hcl _⟩) (by exact Nat.le_of_ble_eq_true rfl), ⟨1, t0, t1, t2, t3, t6, N1, by omega, rfl, .inr ⟨by omega, cap', hcap', rfl, rfl⟩⟩⟩⟩
        · conv => whnf
          cases hlt : decide ((j : Int) < 32) with
          | true =>
            have hj : j < 32 := by have := of_decide_eq_true hlt; omega
            have hj' : j < (bcsL l0 l1 l2 l3).length := by rw [show (bcsL l0 l1 l2 l3).length = 32 from rfl]; exact hj
            have tk := take1 (l := bcsL l0 l1 l2 l3) (j := j) hj'
            have hlen : ((bcsL l0 l1 l2 l3).take j).length = j * 1 := by rw [List.length_take, show (bcsL l0 l1 l2 l3).length = 32 from rfl]; omega
            have hcl1 : closedL 0 [(bcsL l0 l1 l2 l3)[j]'hj'] = true := closedL_iff.2 fun s hs => by
              simp only [List.mem_singleton] at hs
              subst hs
              exact closedL_iff.1 hcl _ (List.getElem_mem _)
            generalize hcj : (bcsL l0 l1 l2 l3)[j]'hj' = cj at *
            have hblk : ∀ (c : Con) (ρ : Ren) (cap : Nat), (⟨(bcsL l0 l1 l2 l3).take (j + 1), 5, cap * 1, true⟩ : Blk) = ⟨rnL F0 c ρ ((bcsL l0 l1 l2 l3).take j ++ [cj]), 5, cap * 1, true⟩ := fun c ρ cap => by
              rw [← hcj, take_snoc, rnL_id (take_cl hcl _)]
            conv => whnf
            rw [dec_idx (n := 32) hj]
            conv => whnf
            conv in (takeAt _ _ _) => change takeAt (bcsL l0 l1 l2 l3) (0 + j * 1) 1; rw [tk]
            conv => whnf
            refine ⟨[_], rfl, rfl, rfl, ?_⟩
            conv => whnf
            refine ⟨hlen, hcap, rfl, rfl, cap_bytes (by omega), fun cap' hcap' => ?_⟩
            conv => whnf
            refine ⟨32 - (j + 1), F0, tp 7 9, by omega, tp_ok (by exact Nat.le_of_ble_eq_true rfl) (by exact Nat.le_of_ble_eq_true rfl), fun c N1 _ _ => ⟨_, _, wkR_of (by (repeat' apply And.intro) <;> first | trivial | exact ⟨_, rfl, tv_inc (n := 32) hj (by omega), rfl⟩ | exact ⟨_, rfl, rfl, rfl⟩) (by (repeat' apply And.intro) <;> first | trivial | rfl | exact ⟨_, rfl, rfl, rfl⟩ | exact ⟨_, rfl, hblk c (tp 7 9) cap', take_cl hcl _⟩) (by exact Nat.le_of_ble_eq_true rfl), ⟨j + 1, t0, t1, t2, t3, t6, N1, hj, rfl, .inr ⟨by omega, cap', hcap', rfl, rfl⟩⟩⟩⟩
          | false =>
            have : j = 32 := by have := of_decide_eq_false hlt; omega
            subst this
            conv => whnf
            refine hK _ _ ?_
            clear hK hR
            refine swp_cut fun K hK hR _ => ?_
            conv => whnf
            refine ⟨fun v _ => v = W (val l0 l1 l2 l3), fun c B hB hL => r3Number_hc h0 h1 h2 h3 (sl_lent (b := 7) (o := 0) (L := ones (bcsL l0 l1 l2 l3)) (post := []) hL rfl (take_cl hcl 32) (by rw [ones_flat]; rfl) rfl hcap (by show 32 ≤ 140737488355128; omega) (ones_es _)), ⟨_, B0, rfl, rfl⟩, ?_⟩
            rintro v N' _ rfl N1 _
            have cb := r3Right_fn' mdP_ok hy
            have cf := refFe_fn (val l0 l1 l2 l3)
            have ca := alive3_fn
            have co := feOdd_fn hx
            generalize val l0 l1 l2 l3 = y at *
            conv => whnf
            refine hK _ _ ?_
            clear hK hR
            have lt : decide (y < pp) = decide (y % pp = y) := by
              have : InW y := hy
              apply decide_eq_decide.2
              unfold pp
              constructor <;> intro h <;> omega
            rw [mdP_M, lt] at cb
            refine swp_cut fun K hK hR _ => ?_
            conv => whnf
            refine ⟨_, cb, rfl, ?_⟩
            conv => whnf
            refine hK _ _ ?_
            clear hK hR
            have hodd : (decide (x % pp % 2 = 1) == (Int.tmod m0 2 == 1)) = true := by
              have i0' : 0 ≤ m0 := i0.1
              have e1 : Int.tmod m0 2 = m0 % 2 := Int.tmod_eq_emod_of_nonneg i0'
              have e2 : x % pp % 2 = m0 % 2 := by rw [em]; unfold val; omega
              rw [e1, e2]
              by_cases hh : m0 % 2 = 1
              · rw [hh]; rfl
              · rw [decide_eq_false hh]; simp [hh]
            refine swp_cut fun K1 hK1 hR1 _ => swp_cut fun K hK hR _ => ?_
            unfold readP at hrd
            by_cases hd : y % pp = y
            · rw [if_pos hd] at hrd
              cases hrd
              rw [decide_eq_true hd]
              repeat (refine aops_step fun T S hT hS => ?_; (conv => whnf); (try rw [weq_self]); first | refine hT _ _ ?_ | refine hS ?_ | (refine ⟨_, cf, rfl, ?_⟩; refine hT _ _ ?_))
              refine aops_end ?_
              refine hK _ _ ?_
              conv => whnf
              refine hK1 _ _ ?_
              clear hK1 hR1
              clear hK hR
              refine swp_cut fun K hK hR _ => ?_
              repeat (refine aops_step fun T S hT hS => ?_; (conv => whnf); (try rw [hodd]); first | refine hT _ _ ?_ | refine hS ?_ | (refine ⟨_, co, rfl, ?_⟩; refine hT _ _ ?_) | (refine ⟨_, ca, rfl, ?_⟩; refine hT _ _ ?_))
              refine aops_end ?_
              refine hK _ _ ?_
              conv => whnf
              intro c N2 _ _
              rfl
            · rw [if_neg hd] at hrd
              cases hrd
              rw [decide_eq_false hd]
              repeat (refine aops_step fun T S hT hS => ?_; (conv => whnf); (try rw [weq_self]); first | refine hT _ _ ?_ | refine hS ?_ | (refine ⟨_, cf, rfl, ?_⟩; refine hT _ _ ?_))
              refine aops_end ?_
              refine hK _ _ ?_
              conv => whnf
              refine hK1 _ _ ?_
              clear hK1 hR1
              clear hK hR
              refine swp_cut fun K hK hR _ => ?_
              repeat (refine aops_step fun T S hT hS => ?_; (conv => whnf); (try rw [hodd]); first | refine hT _ _ ?_ | refine hS ?_ | (refine ⟨_, co, rfl, ?_⟩; refine hT _ _ ?_) | (refine ⟨_, ca, rfl, ?_⟩; refine hT _ _ ?_))
              refine aops_end ?_
              refine hK _ _ ?_
              conv => whnf
              intro c N2 _ _
              rfl
      · refine ⟨32, F0, ren0, ren0_ok _, fun c N1 _ _ => ⟨_, _, wkR_of (by (repeat' apply And.intro) <;> first | trivial | exact ⟨_, rfl, rfl, rfl⟩) (by (repeat' apply And.intro) <;> first | trivial | rfl | exact ⟨_, rfl, rfl, rfl⟩) (by exact Nat.le_of_ble_eq_true rfl), ⟨0, _, _, _, _, _, N1, by omega, rfl, .inl ⟨rfl, rfl, rfl⟩⟩⟩⟩
  · refine ⟨32, F0, fun c N1 _ _ => ⟨_, _, wk_of (by (repeat' apply And.intro) <;> first | trivial | exact ⟨_, rfl, rfl, rfl⟩) (by (repeat' apply And.intro) <;> first | trivial | rfl | exact ⟨_, rfl, rfl, rfl⟩) (by exact Nat.le_of_ble_eq_true rfl) (by exact Nat.le_of_ble_eq_true rfl), ⟨0, _, _, _, _, _, N1, by omega, rfl, rfl, rfl⟩⟩⟩

end Go.Hv
