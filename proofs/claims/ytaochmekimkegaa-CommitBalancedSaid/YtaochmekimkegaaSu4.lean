import Derived.Test.YtaochmekimkegaaSu3
import Derived.Test.YtaochmekimkegaaOpL
namespace Go.Hv
open Go.Ev Go.Ec

set_option maxHeartbeats 1000000 in
set_option maxRecDepth 100000 in
theorem lawCommitBalanced_hc {A : Base} {q1 q2 : Option SP} {n1 n2 k1 k2 : Nat} {L M : List Pnt} (hs : Sl A 9 (.one (.slice q1 n1 k1)) (L.map Pnt.cells)) (hr : Sl A 9 (.one (.slice q2 n2 k2)) (M.map Pnt.cells)) :
  HC PG A f_law07_CommitBalanced [.one (.slice q1 n1 k1), .one (.slice q2 n2 k2)] fun v _ => v = .one (.bool true) := by
 obtain ⟨x, y, b, ix, iy, e1, _, _⟩ := pt_nm _ (psum_on L)
 obtain ⟨x', y', b', ix', iy', e2, _, _⟩ := pt_nm _ (psum_on M)
 have a7 := alive7_fn
 have w : (eqPt x y b x' y' b' == eqPt x y b x' y' b') = true := beq_self_eq_true _
 have cA := fun (B : Base) (h : Base.le A B) => balanced_hc (hs.mono h) (hr.mono h) ix iy ix' iy' e1 e2
 have cB := fun (B : Base) (h : Base.le A B) => r7Balanced_hc (hs.mono h) (hr.mono h) ix iy ix' iy' e1 e2
 generalize eqPt x y b x' y' b' = r at *
 refine hc_start (fun _ => none) h_law07_CommitBalanced rfl (by kernel_rfl) (by kernel_rfl) (closedTs_iff.2 fun v hv => by
  simp only [List.mem_cons, List.not_mem_nil, or_false] at hv
  rcases hv with rfl | rfl
  ·exact hs.stable.1 0
  ·exact hr.stable.1 0) ?_
 refine swp_cut fun K hK hR _ => ?_
 conv => whnf
 refine hK _ _ ?_
 clear hK hR
 refine swp_cut fun K hK hR _ => ?_
 refine aops_step fun T S hT hS => ?_
 conv => whnf
 refine ⟨_, a7, rfl, ?_⟩
 refine hT _ _ ?_
 iterate 3 (refine aops_step fun T S hT hS => ?_; (conv => whnf); refine hT _ _ ?_)
 refine aops_step fun T S hT hS => ?_
 conv => whnf
 refine ⟨fun v _ => v = .one (.bool r), fun c B hB hL => by show HC PG B _ [TV.ext c _, TV.ext c _] _; rw [hs.stable.2.2 c, hr.stable.2.2 c]; exact cA B (fun r o h => hB r o (.inl h)), ⟨_, B0, rfl, rfl⟩, ?_⟩
 rintro v N' _ rfl N1 _
 refine hT _ _ ?_
 iterate 2 (refine aops_step fun T S hT hS => ?_; (conv => whnf); refine hT _ _ ?_)
 refine aops_step fun T S hT hS => ?_
 conv => whnf
 refine ⟨fun v _ => v = .one (.bool r), fun c B hB hL => by show HC PG B _ [TV.ext c _, TV.ext c _] _; rw [hs.stable.2.2 c, hr.stable.2.2 c]; exact cB B (fun r o h => hB r o (.inl h)), ⟨_, B0, rfl, rfl⟩, ?_⟩
 rintro v N2 _ rfl N3 _
 refine hT _ _ ?_
 refine aops_step fun T S hT hS => ?_
 conv => whnf
 rw [w]
 refine hT _ _ ?_
 iterate 2 (refine aops_step fun T S hT hS => ?_; (conv => whnf); refine hT _ _ ?_)
 refine aops_end ?_
 refine hK _ _ ?_
 clear hK hR
 conv => whnf
 intro c N8 _ _
 rfl

set_option maxHeartbeats 1000000 in
set_option maxRecDepth 100000 in
theorem lawCurveSums_hc {A : Base} {q1 q2 : Option SP} {n1 n2 k1 k2 : Nat} {L : List Pnt} {M : List Trm} (hs : Sl A 9 (.one (.slice q1 n1 k1)) (L.map Pnt.cells)) (hM : ∀ t ∈ M, t.In) (hr : Sl A 13 (.one (.slice q2 n2 k2)) (M.map Trm.cells)) :
  HC PG A f_law05_CurveSums [.one (.slice q1 n1 k1), .one (.slice q2 n2 k2)] fun v _ => v = .one (.bool true) := by
 obtain ⟨x, y, b, ix, iy, e1, _, _⟩ := pt_nm _ (psum_on L)
 obtain ⟨x', y', b', ix', iy', e2, _, _⟩ := pt_nm _ (msum_on hM)
 have a5 := alive5_fn
 have w1 := same9 x y b
 have w2 := same9 x' y' b'
 refine hc_start (fun _ => none) h_law05_CurveSums rfl (by kernel_rfl) (by kernel_rfl) (closedTs_iff.2 fun v hv => by
  simp only [List.mem_cons, List.not_mem_nil, or_false] at hv
  rcases hv with rfl | rfl
  ·exact hs.stable.1 0
  ·exact hr.stable.1 0) ?_
 refine swp_cut fun K hK hR _ => ?_
 conv => whnf
 refine hK _ _ ?_
 clear hK hR
 refine swp_cut fun K hK hR _ => ?_
 refine aops_step fun T S hT hS => ?_
 conv => whnf
 refine ⟨_, a5, rfl, ?_⟩
 refine hT _ _ ?_
 iterate 2 (refine aops_step fun T S hT hS => ?_; (conv => whnf); refine hT _ _ ?_)
 refine aops_step fun T S hT hS => ?_
 conv => whnf
 refine ⟨fun v N => ∃ r0, v = TV.one (.raw (.func (.func f_slices_Values___api_Point_api_Point__1) #[] #[.pointer (some ⟨r0, 0, none⟩)])) ∧ bcell N ⟨r0, 0, none⟩ ((Sc.slice q1 n1 k1).conc Con0), fun c B hB hL => by show HC PG B _ [TV.ext c _] _; rw [hs.stable.2.2 c]; exact slValues_hc (hs.stable.1 0), vals_ne _, ?_⟩
 rintro v N' _ ⟨r1, rfl, hb1⟩ N1 hN1
 refine hT _ _ ?_
 refine aops_step fun T S hT hS => ?_
 conv => whnf
 refine ⟨fun v _ => v = ptOf (psum L), fun c B hB hL => sum_hc (hs.mono (fun r o h => hB r o (.inl h))) (bcell_le (fun r o h => hB r o (.inr (hN1 r o (.inr h)))) hb1), ⟨_, B0, ptOf_closed _, rfl⟩, ?_⟩
 rintro v N2 _ rfl N3 _
 rw [e1]
 refine hT _ _ ?_
 refine aops_step fun T S hT hS => ?_
 conv => whnf
 refine hT _ _ ?_
 refine aops_step fun T S hT hS => ?_
 conv => whnf
 refine ⟨fun v _ => v = ptOf (psum L), fun c B hB hL => by show HC PG B _ [TV.ext c _] _; rw [hs.stable.2.2 c]; exact r5Sum_hc (hs.mono (fun r o h => hB r o (.inl h))), ⟨_, B0, ptOf_closed _, rfl⟩, ?_⟩
 rintro v N4 _ rfl N5 _
 rw [e1]
 refine hT _ _ ?_
 refine aops_step fun T S hT hS => ?_
 conv => whnf
 rw [w1]
 refine hT _ _ ?_
 iterate 3 (refine aops_step fun T S hT hS => ?_; (conv => whnf); refine hT _ _ ?_)
 refine aops_step fun T S hT hS => ?_
 conv => whnf
 refine ⟨fun v _ => v = ptOf (msum M), fun c B hB hL => by show HC PG B _ [TV.ext c _] _; rw [hr.stable.2.2 c]; exact multi_hc (hr.mono (fun r o h => hB r o (.inl h))) hM, ⟨_, B0, ptOf_closed _, rfl⟩, ?_⟩
 rintro v N6 _ rfl N7 _
 rw [e2]
 refine hT _ _ ?_
 refine aops_step fun T S hT hS => ?_
 conv => whnf
 refine hT _ _ ?_
 refine aops_step fun T S hT hS => ?_
 conv => whnf
 refine ⟨fun v _ => v = ptOf (msum M), fun c B hB hL => by show HC PG B _ [TV.ext c _] _; rw [hr.stable.2.2 c]; exact r5Multi_hc (hr.mono (fun r o h => hB r o (.inl h))) hM, ⟨_, B0, ptOf_closed _, rfl⟩, ?_⟩
 rintro v N8 _ rfl N9 _
 rw [e2]
 refine hT _ _ ?_
 refine aops_step fun T S hT hS => ?_
 conv => whnf
 rw [w2]
 refine hT _ _ ?_
 iterate 2 (refine aops_step fun T S hT hS => ?_; (conv => whnf); refine hT _ _ ?_)
 refine aops_end ?_
 refine hK _ _ ?_
 clear hK hR
 conv => whnf
 intro c N10 _ _
 rfl

end Go.Hv
