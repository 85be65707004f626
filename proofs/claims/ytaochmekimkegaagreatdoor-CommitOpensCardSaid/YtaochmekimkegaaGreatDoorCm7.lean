import Derived.Test.YtaochmekimkegaaGreatDoorCm5
namespace Go.Hv
open Go.Ev Go.Ec

def ordCo : Nat → Option (List Nat)
 | 1 => some [0, 1, 2, 3, 4, 6, 7, 8, 5, 9, 10, 11, 12]
 | _ => none

set_option maxHeartbeats 1000000 in
set_option maxRecDepth 100000 in
theorem lawCommitOpens_hc {A : Base} {D : List Int} {x y : Int} {w2 x2 y2 : Int} {E : List Int} {w s r : Int} (hTb : Tab A) (hTr : Tab0 A) (l : Bool) (hD : D.length = 32) (_hD8 : ∀ z ∈ D, 0 ≤ z ∧ z < 256) (hx : InW x) (hy : InW y) (b : Bool) (l2 : Bool) (_hw2 : InU w2) (hx2 : InW x2) (hy2 : InW y2) (b2 : Bool)
  (hE : E.length = 32) (hE8 : ∀ z ∈ E, 0 ≤ z ∧ z < 256) (hw : InU w) (hs : InW s) (hr : InW r) : HC PG A f_law07_CommitOpens [.agg (tagC l D x y b), .agg (amtC l2 w2 x2 y2 b2), .agg (opC E w s r)] fun v _ => v = .one (.bool true) := by
 refine hc_start ordCo h_law07_CommitOpens rfl (by kernel_rfl) (by kernel_rfl) (closedTs_iff.2 fun v hv => by
  simp only [List.mem_cons, List.not_mem_nil, or_false] at hv
  rcases hv with rfl | rfl | rfl
  ·exact tag_cl l D x y b
  ·rfl
  ·exact op_cl E w s r) ?_
 obtain ⟨P, on1, aC, aR⟩ := asset_hc hE hE8 hs
 obtain ⟨px, py, pb, ipx, ipy, ep, tp, _⟩ := pt_nm P on1
 rw [ep] at aC aR
 obtain ⟨qx, qy, qb, iqx, iqy, eq, _, _⟩ := pt_nm _ (valP_on (v := w) (k := r) on1)
 rw [← tp] at eq
 have cO := fun (B : Base) (hB : Base.le A B) => opens_hc (A := B) (l := l) (b := b) (l2 := l2) (b2 := b2) (w2 := w2) hD hx hy hx2 hy2 hE hw hs hr (fun C hC => aC C (ERead_le (fun r o h => hC r o (hB r o h)) hTb)) ipx ipy iqx iqy eq
 have cR := fun (B : Base) (hB : Base.le A B) => ropens_hc (A := B) (l := l) (b := b) (l2 := l2) (b2 := b2) (w2 := w2) hD hx hy hx2 hy2 hE hw hs hr (fun C hC => aR C (ERead_le (fun r o h => hC r o (hB r o h)) hTr)) ipx ipy iqx iqy eq
 generalize opensB (rightT l D x y b) _ _ _ _ _ _ _ _ _ = ans at *
 have wa : (ans == ans) = true := beq_self_eq_true _
 have a7 := alive7_fn
 have e1 : ∀ c, extL c (tagC l D x y b) = tagC l D x y b := fun c => extL_closed c (tag_cl l D x y b)
 have e2 : ∀ c, extL c (amtC l2 w2 x2 y2 b2) = amtC l2 w2 x2 y2 b2 := fun c => extL_closed c rfl
 have e3 : ∀ c, extL c (opC E w s r) = opC E w s r := fun c => extL_closed c (op_cl E w s r)
 have t42 := tag_all hD l x y b
 have a11 := amt_all l2 w2 x2 y2 b2
 have o41 : takeAt (opC E w s r) 0 41 = some (opC E w s r) := by
  have := takeAt_app [] (opC E w s r) []
  rw [List.append_nil, show (opC E w s r).length = 41 by simp [opC, words, hE]] at this
  exact this
 generalize hO : tagC l D x y b = TG at *
 generalize hO2 : amtC l2 w2 x2 y2 b2 = AM at *
 generalize hO3 : opC E w s r = OP at *
 refine swp_cut fun K hK hR _ => ?_
 conv => whnf
 refine hK _ _ ?_
 clear hK hR
 refine swp_cut fun K hK hR _ => ?_
 refine aops_step fun T S hT hS => ?_
 conv => whnf
 refine ⟨_, a7, rfl, ?_⟩
 refine hT _ _ ?_
 refine aops_step fun T S hT hS => ?_
 conv => whnf
 refine hT _ _ ?_
 refine aops_step fun T S hT hS => ?_
 conv => whnf
 conv in (takeAt _ _ _) => change takeAt TG 0 42; rw [t42]
 conv => whnf
 refine hT _ _ ?_
 refine aops_step fun T S hT hS => ?_
 conv => whnf
 conv in (takeAt _ _ _) => change takeAt AM 0 11; rw [a11]
 conv => whnf
 refine hT _ _ ?_
 refine aops_step fun T S hT hS => ?_
 conv => whnf
 conv in (takeAt _ _ _) => change takeAt OP 0 41; rw [o41]
 conv => whnf
 refine hT _ _ ?_
 refine aops_step fun T S hT hS => ?_
 conv => whnf
 conv in (takeAt _ _ _) => change takeAt TG 0 42; rw [t42]
 conv => whnf
 refine hT _ _ ?_
 refine aops_step fun T S hT hS => ?_
 conv => whnf
 conv in (takeAt _ _ _) => change takeAt AM 0 11; rw [a11]
 conv => whnf
 refine hT _ _ ?_
 refine aops_step fun T S hT hS => ?_
 conv => whnf
 conv in (takeAt _ _ _) => change takeAt OP 0 41; rw [o41]
 conv => whnf
 refine hT _ _ ?_
 refine aops_step fun T S hT hS => ?_
 conv => whnf
 refine ⟨fun v _ => v = .one (.bool ans), fun c B hB hL => by
  show HC PG B f_commit_Opens [.agg (extL c TG), .agg (extL c AM), .agg (extL c OP)] _
  rw [e1 c, e2 c, e3 c]
  exact cO B (fun r o h => hB r o (.inl h)), ⟨_, B0, rfl, rfl⟩, ?_⟩
 rintro v N' _ rfl N1 _
 refine hT _ _ ?_
 refine aops_step fun T S hT hS => ?_
 conv => whnf
 refine ⟨fun v _ => v = .one (.bool ans), fun c B hB hL => by
  show HC PG B f_ref07_Opens [.agg (extL c TG), .agg (extL c AM), .agg (extL c OP)] _
  rw [e1 c, e2 c, e3 c]
  exact cR B (fun r o h => hB r o (.inl h)), ⟨_, B0, rfl, rfl⟩, ?_⟩
 rintro v N' _ rfl N1 _
 refine hT _ _ ?_
 refine aops_step fun T S hT hS => ?_
 conv => whnf
 rw [wa]
 refine hT _ _ ?_
 iterate 2 (refine aops_step fun T S hT hS => ?_; (conv => whnf); refine hT _ _ ?_)
 refine aops_end ?_
 refine hK _ _ ?_
 conv => whnf
 intro c N2 _ _
 rfl

end Go.Hv
