import Derived.Test.YtaochmekimkegaaSu2
namespace Go.Hv
open Go.Ev Go.Ec

theorem Sl.sub {B : Base} {es : Nat} {a : Addr} {n cap : Nat} {L : List (List Sc)} (h : Sl B es (.one (.slice (some (.ext a)) n cap)) L) {i : Nat} {pre x post : List Sc} (hi : L[i]? = some (pre ++ (x ++ post))) :
  ERead B true x.length (a.add (i * es + pre.length)) (.agg x) := by
 obtain ⟨p, cap', h1, h2, h3, h4⟩ := h
 simp only [TV.one.injEq, Sc.slice.injEq] at h1
 obtain ⟨rfl, _, _⟩ := h1
 have hx := h3 _ (List.mem_of_getElem? hi)
 refine ⟨x, rfl, fun j s hj => ?_, closedL_iff.2 fun s hs => closedL_iff.1 hx.2 s (by simp [hs]), rfl⟩
 have hj2 : (pre ++ (x ++ post))[pre.length + j]? = some s := by
  rw [List.getElem?_append_right (by omega), Nat.add_sub_cancel_left, List.getElem?_append_left (List.getElem?_eq_some_iff.1 hj).1]
  exact hj
 rw [addr_add_add a h4.1, Nat.add_assoc]
 exact h4.2 i _ (pre.length + j) s hi hj2

theorem Sl.sub2 {B : Base} {es : Nat} {a : Addr} {n cap : Nat} {L : List (List Sc)} (h : Sl B es (.one (.slice (some (.ext a)) n cap)) L) {i : Nat} {pre x post : List Sc} (hi : L[i]? = some (pre ++ (x ++ post))) :
  ERead B true x.length ((a.add (i * es)).add pre.length) (.agg x) := by
 have h1 := h.sub hi
 obtain ⟨p, cap', h1', h2, h3, h4⟩ := h
 simp only [TV.one.injEq, Sc.slice.injEq] at h1'
 obtain ⟨rfl, _, _⟩ := h1'
 rw [addr_add_add a h4.1]
 exact h1

def RsE (q : TV) (i : Nat) : Env := [(4, .one (.int .i64 (i : Int))), (3, .one (.ptr (some (.loc 1 0)))), (2, .one (.ptr (some (.loc 0 0)))), (0, q)]

def RsI (S : Nat → Pt PPn) (n : Nat) (q : TV) (k : Nat) (e : Env) (m : HM) : Prop :=
 ∃ (i t0 t1 : Nat) (N : Base) (px py : Int) (pb : Bool), i ≤ n ∧ k = n - i ∧ InW px ∧ InW py ∧ tkn px py pb = S i ∧ ptOf (S i) = ptV px py pb ∧ e = RsE q i ∧
  m = ⟨[some ⟨ptC 0 0 false, t0, 0, false⟩, some ⟨ptC px py pb, t1, 0, false⟩], N⟩

set_option maxHeartbeats 1000000 in
set_option maxRecDepth 100000 in
theorem r5Sum_hc {A : Base} {q : TV} {L : List Pnt} (hs : Sl A 9 q (L.map Pnt.cells)) : HC PG A f_ref05_Sum [q] fun v _ => v = ptOf (psum L) := by
 obtain ⟨p, cap, rfl, g1, g2, g3⟩ := id hs
 have hml : (L.map Pnt.cells).length = L.length := List.length_map ..
 rw [hml] at hs g1 ⊢
 refine hc_start (fun _ => none) h_ref05_Sum rfl (by kernel_rfl) (by kernel_rfl) (closedTs_iff.2 fun v hv => by
  simp only [List.mem_singleton] at hv
  subst hv
  exact hs.stable.1 0) ?_
 have cz := r5zero_fn
 refine swp_cut fun K hK hR _ => ?_
 conv => whnf
 refine hK _ _ ?_
 clear hK hR
 refine swp_cut fun K hK hR _ => ?_
 conv => whnf
 refine ⟨_, cz, rfl, ?_⟩
 conv => whnf
 refine hK _ _ ?_
 clear hK hR
 refine swp_cut fun K hK hR _ => ?_
 refine swp_cut fun K2 hK2 hR2 _ => ?_
 conv => whnf
 refine hK2 _ _ ?_
 clear hK2 hR2
 conv => whnf
 refine .inr (loop_invC (gH A _) (RsI (fun i => psum (L.take i)) L.length (.one (.slice p L.length cap))) ?_ ?_)
 ·intro k' e' m' hI
  obtain ⟨i, t0, t1, N, px, py, pb, hi, rfl, ipx, ipy, ht, hp, rfl, rfl⟩ := hI
  conv => whnf
  cases hlt : decide ((i : Int) < (L.length : Int)) with
  | true =>
   have hi' : i < L.length := by have := of_decide_eq_true hlt; omega
   obtain ⟨a, ha⟩ : ∃ a, p = some (.ext a) := by
    match p, g3 with
    | none, g3 =>
     have := congrArg List.length g3.1
     rw [hml] at this
     simp at this
     omega
    | some (.ext a), _ => exact ⟨a, rfl⟩
   subst ha
   have hget : (L.map Pnt.cells)[i]? = some L[i].cells := by rw [List.getElem?_map, List.getElem?_eq_getElem hi']; rfl
   have hsu := psum_succ L hi'
   have hon := psum_on (L.take (i + 1))
   generalize L[i] = t at *
   obtain ⟨⟨x, y, b⟩, ix, iy⟩ := t
   obtain ⟨qx, qy, qb, iqx, iqy, eq_, tq, _⟩ := pt_nm _ hon
   have c1 := r5Add_fn (b := pb) (b' := b) ipx ipy ix iy
   rw [show add (tkn px py pb) (tkn x y b) = psum (L.take (i + 1)) from by rw [ht, hsu]; rfl, eq_] at c1
   have hblk : ∀ (F : Nat → Bool) (c : Con), (⟨ptC qx qy qb, t1, 0, false⟩ : Blk) = ⟨fzL F c (ptC qx qy qb), t1, 0, false⟩ := fun F c => rfl
   show swpC _ (Code.seq _ _) _ _ _
   refine swp_cut fun K4 hK4 hR4 _ => ?_
   refine blk_swp ?_
   iterate 3 (refine aops_step fun T S hT hS => ?_; (conv => whnf); refine hT _ _ ?_)
   refine aops_step fun T S hT hS => ?_
   conv => whnf
   rw [dec_idx (n := L.length) hi']
   conv => whnf
   refine hT _ _ ?_
   refine aops_step fun T S hT hS => ?_
   conv => whnf
   refine ⟨_, ERead_l (hs.agg (i := i) hget), ?_⟩
   refine hT _ _ ?_
   refine aops_step fun T S hT hS => ?_
   conv => whnf
   refine ⟨_, c1, rfl, ?_⟩
   refine hT _ _ ?_
   refine aops_step fun T S hT hS => ?_
   conv => whnf
   refine hT _ _ ?_
   refine aops_end ?_
   refine hK4 _ _ ?_
   clear hK4 hR4
   conv => whnf
   refine ⟨L.length - (i + 1), F0, by omega, fun c N1 _ _ => ⟨_, _, wk_of (by (repeat' apply And.intro) <;> first | trivial | exact ⟨_, rfl, tv_inc (n := L.length) hi' (by omega), rfl⟩ | exact ⟨_, rfl, rfl, rfl⟩) (by (repeat' apply And.intro) <;> first | trivial | rfl | exact ⟨_, rfl, hblk _ _, rfl⟩ | exact ⟨_, rfl, rfl, rfl⟩) (by exact Nat.le_of_ble_eq_true rfl) (by exact Nat.le_of_ble_eq_true rfl), ⟨i + 1, t0, t1, N1, qx, qy, qb, hi', rfl, iqx, iqy, tq, eq_, rfl, rfl⟩⟩⟩
  | false =>
   obtain rfl : i = L.length := by have := of_decide_eq_false hlt; omega
   conv => whnf
   refine hK _ _ ?_
   clear hK hR
   replace hp : ptOf (psum L) = ptV px py pb := by simpa only [List.take_length] using hp
   rw [hp]
   refine swp_cut fun K hK hR _ => ?_
   conv => whnf
   refine hK _ _ ?_
   clear hK hR
   conv => whnf
   intro c N2 _ _
   rfl
 ·refine ⟨L.length, F0, fun c N1 _ _ => ⟨_, _, wk_of (by (repeat' apply And.intro) <;> first | trivial | exact ⟨_, rfl, rfl, rfl⟩ | exact ⟨_, rfl, hs.stable.2.1 _ _, hs.stable.1 _⟩) (by (repeat' apply And.intro) <;> first | trivial | rfl | exact ⟨_, rfl, rfl, rfl⟩) (by exact Nat.le_of_ble_eq_true rfl) (by exact Nat.le_of_ble_eq_true rfl), ⟨0, _, _, N1, 0, 0, true, by omega, rfl, ⟨by omega, by omega⟩, ⟨by omega, by omega⟩, rfl, rfl, rfl, rfl⟩⟩⟩

set_option maxHeartbeats 1000000 in
set_option maxRecDepth 100000 in
theorem r5Multi_hc {A : Base} {q : TV} {L : List Trm} (hs : Sl A 13 q (L.map Trm.cells)) (hL : ∀ t ∈ L, t.In) : HC PG A f_ref05_Multi [q] fun v _ => v = ptOf (msum L) := by
 obtain ⟨p, cap, rfl, g1, g2, g3⟩ := id hs
 have hml : (L.map Trm.cells).length = L.length := List.length_map ..
 rw [hml] at hs g1 ⊢
 refine hc_start (fun _ => none) h_ref05_Multi rfl (by kernel_rfl) (by kernel_rfl) (closedTs_iff.2 fun v hv => by
  simp only [List.mem_singleton] at hv
  subst hv
  exact hs.stable.1 0) ?_
 have cz := r5zero_fn
 refine swp_cut fun K hK hR _ => ?_
 conv => whnf
 refine hK _ _ ?_
 clear hK hR
 refine swp_cut fun K hK hR _ => ?_
 conv => whnf
 refine ⟨_, cz, rfl, ?_⟩
 conv => whnf
 refine hK _ _ ?_
 clear hK hR
 refine swp_cut fun K hK hR _ => ?_
 refine swp_cut fun K2 hK2 hR2 _ => ?_
 conv => whnf
 refine hK2 _ _ ?_
 clear hK2 hR2
 conv => whnf
 refine .inr (loop_invC (gH A _) (RsI (fun i => msum (L.take i)) L.length (.one (.slice p L.length cap))) ?_ ?_)
 ·intro k' e' m' hI
  obtain ⟨i, t0, t1, N, px, py, pb, hi, rfl, ipx, ipy, ht, hp, rfl, rfl⟩ := hI
  conv => whnf
  cases hlt : decide ((i : Int) < (L.length : Int)) with
  | true =>
   have hi' : i < L.length := by have := of_decide_eq_true hlt; omega
   obtain ⟨a, ha⟩ : ∃ a, p = some (.ext a) := by
    match p, g3 with
    | none, g3 =>
     have := congrArg List.length g3.1
     rw [hml] at this
     simp at this
     omega
    | some (.ext a), _ => exact ⟨a, rfl⟩
   subst ha
   have hget : (L.map Trm.cells)[i]? = some L[i].cells := by rw [List.getElem?_map, List.getElem?_eq_getElem hi']; rfl
   have hsu := msum_succ L hi'
   have hon := msum_on (L := L.take (i + 1)) (fun t ht => hL t (List.mem_of_mem_take ht))
   have hin := hL _ (List.getElem_mem hi')
   generalize L[i] = t at *
   obtain ⟨k, x, y, b⟩ := t
   obtain ⟨ik, ix, iy⟩ : InW k ∧ InW x ∧ InW y := hin
   obtain ⟨ux, uy, ub, iux, iuy, eu, tu, _⟩ := pt_nm _ (smul_on fld _ (tkn_on x y b) k.toNat)
   have c0 := r5Mul7 (b := b) ik ix iy
   rw [eu] at c0
   obtain ⟨qx, qy, qb, iqx, iqy, eq_, tq, _⟩ := pt_nm _ hon
   have c1 := r5Add_fn (b := pb) (b' := ub) ipx ipy iux iuy
   rw [show add (tkn px py pb) (tkn ux uy ub) = msum (L.take (i + 1)) from by rw [ht, hsu, tu]; rfl, eq_] at c1
   have hblk : ∀ (F : Nat → Bool) (c : Con), (⟨ptC qx qy qb, t1, 0, false⟩ : Blk) = ⟨fzL F c (ptC qx qy qb), t1, 0, false⟩ := fun F c => rfl
   show swpC _ (Code.seq _ _) _ _ _
   refine swp_cut fun K4 hK4 hR4 _ => ?_
   refine blk_swp ?_
   have hg2 : (L.map Trm.cells)[i]? = some ([] ++ (words k ++ ptC x y b)) := hget
   have hg3 : (L.map Trm.cells)[i]? = some (words k ++ (ptC x y b ++ [])) := by rw [List.append_nil]; exact hget
   iterate 3 (refine aops_step fun T S hT hS => ?_; (conv => whnf); refine hT _ _ ?_)
   refine aops_step fun T S hT hS => ?_
   conv => whnf
   rw [dec_idx (n := L.length) hi']
   conv => whnf
   refine hT _ _ ?_
   refine aops_step fun T S hT hS => ?_
   conv => whnf
   refine hT _ _ ?_
   refine aops_step fun T S hT hS => ?_
   conv => whnf
   refine ⟨_, ERead_l (hs.sub (i := i) hg2), ?_⟩
   refine hT _ _ ?_
   iterate 2 (refine aops_step fun T S hT hS => ?_; (conv => whnf); refine hT _ _ ?_)
   refine aops_step fun T S hT hS => ?_
   conv => whnf
   rw [dec_idx (n := L.length) hi']
   conv => whnf
   refine hT _ _ ?_
   refine aops_step fun T S hT hS => ?_
   conv => whnf
   refine hT _ _ ?_
   refine aops_step fun T S hT hS => ?_
   conv => whnf
   refine ⟨_, ERead_l (hs.sub2 (i := i) hg3), ?_⟩
   refine hT _ _ ?_
   refine aops_step fun T S hT hS => ?_
   conv => whnf
   refine ⟨_, c0, rfl, ?_⟩
   refine hT _ _ ?_
   refine aops_step fun T S hT hS => ?_
   conv => whnf
   refine ⟨_, c1, rfl, ?_⟩
   refine hT _ _ ?_
   refine aops_step fun T S hT hS => ?_
   conv => whnf
   refine hT _ _ ?_
   refine aops_end ?_
   refine hK4 _ _ ?_
   clear hK4 hR4
   conv => whnf
   refine ⟨L.length - (i + 1), F0, by omega, fun c N1 _ _ => ⟨_, _, wk_of (by (repeat' apply And.intro) <;> first | trivial | exact ⟨_, rfl, tv_inc (n := L.length) hi' (by omega), rfl⟩ | exact ⟨_, rfl, rfl, rfl⟩) (by (repeat' apply And.intro) <;> first | trivial | rfl | exact ⟨_, rfl, hblk _ _, rfl⟩ | exact ⟨_, rfl, rfl, rfl⟩) (by exact Nat.le_of_ble_eq_true rfl) (by exact Nat.le_of_ble_eq_true rfl), ⟨i + 1, t0, t1, N1, qx, qy, qb, hi', rfl, iqx, iqy, tq, eq_, rfl, rfl⟩⟩⟩
  | false =>
   obtain rfl : i = L.length := by have := of_decide_eq_false hlt; omega
   conv => whnf
   refine hK _ _ ?_
   clear hK hR
   replace hp : ptOf (msum L) = ptV px py pb := by simpa only [List.take_length] using hp
   rw [hp]
   refine swp_cut fun K hK hR _ => ?_
   conv => whnf
   refine hK _ _ ?_
   clear hK hR
   conv => whnf
   intro c N2 _ _
   rfl
 ·refine ⟨L.length, F0, fun c N1 _ _ => ⟨_, _, wk_of (by (repeat' apply And.intro) <;> first | trivial | exact ⟨_, rfl, rfl, rfl⟩ | exact ⟨_, rfl, hs.stable.2.1 _ _, hs.stable.1 _⟩) (by (repeat' apply And.intro) <;> first | trivial | rfl | exact ⟨_, rfl, rfl, rfl⟩) (by exact Nat.le_of_ble_eq_true rfl) (by exact Nat.le_of_ble_eq_true rfl), ⟨0, _, _, N1, 0, 0, true, by omega, rfl, ⟨by omega, by omega⟩, ⟨by omega, by omega⟩, rfl, rfl, rfl, rfl⟩⟩⟩

def eqPt (x y : Int) (b : Bool) (x' y' : Int) (b' : Bool) : Bool := decide (x = x') && (decide (y = y') && ((b == b') && true))

theorem vals_ne (q : Sc) : ∃ (v : TV) (N : Base), v.closed 0 = true ∧ ∃ r, v = TV.one (.raw (.func (.func f_slices_Values___api_Point_api_Point__1) #[] #[.pointer (some ⟨r, 0, none⟩)])) ∧ bcell N ⟨r, 0, none⟩ (q.conc Con0) :=
 ⟨_, fun _ o => o = .cells #[q.conc Con0] 0 (0, 0), rfl, 0, rfl, ⟨_, _, _, rfl, rfl, rfl⟩⟩

set_option maxHeartbeats 1000000 in
set_option maxRecDepth 100000 in
theorem balanced_hc {A : Base} {q r : Sc} {L M : List Pnt} (hs : Sl A 9 (.one q) (L.map Pnt.cells)) (hr : Sl A 9 (.one r) (M.map Pnt.cells)) {x y x' y' : Int} {b b' : Bool} (hx : InW x) (hy : InW y) (hx' : InW x') (hy' : InW y') (e1 : ptOf (psum L) = ptV x y b) (e2 : ptOf (psum M) = ptV x' y' b') :
  HC PG A f_commit_Balanced [.one q, .one r] fun v _ => v = .one (.bool (eqPt x y b x' y' b')) := by
 have w := peq hx hy hx' hy' ((b == b') && true)
 have k1 := @sum_hc
 refine hc_start (fun _ => none) h_commit_Balanced rfl (by kernel_rfl) (by kernel_rfl) (closedTs_iff.2 fun v hv => by
  simp only [List.mem_cons, List.not_mem_nil, or_false] at hv
  rcases hv with rfl | rfl
  ·exact hs.stable.1 0
  ·exact hr.stable.1 0) ?_
 refine swp_cut fun K hK hR _ => ?_
 conv => whnf
 refine hK _ _ ?_
 clear hK hR
 refine swp_cut fun K hK hR _ => ?_
 refine aops_step fun T S hT hS => ?_
 conv => whnf
 refine hT _ _ ?_
 refine aops_step fun T S hT hS => ?_
 conv => whnf
 refine ⟨fun v N => ∃ r0, v = TV.one (.raw (.func (.func f_slices_Values___api_Point_api_Point__1) #[] #[.pointer (some ⟨r0, 0, none⟩)])) ∧ bcell N ⟨r0, 0, none⟩ (q.conc Con0), fun c B hB hL => by show HC PG B _ [TV.ext c _] _; rw [hs.stable.2.2 c]; exact slValues_hc (hs.stable.1 0), vals_ne q, ?_⟩
 rintro v N' _ ⟨r1, rfl, hb1⟩ N1 hN1
 refine hT _ _ ?_
 refine aops_step fun T S hT hS => ?_
 conv => whnf
 refine ⟨fun v _ => v = ptOf (psum L), fun c B hB hL => sum_hc (hs.mono (fun r o h => hB r o (.inl h))) (bcell_le (fun r o h => hB r o (.inr (hN1 r o (.inr h)))) hb1), ⟨_, B0, ptOf_closed _, rfl⟩, ?_⟩
 rintro v N2 _ rfl N3 hN3
 rw [e1]
 refine hT _ _ ?_
 refine aops_step fun T S hT hS => ?_
 conv => whnf
 refine hT _ _ ?_
 refine aops_step fun T S hT hS => ?_
 conv => whnf
 refine ⟨fun v N => ∃ r0, v = TV.one (.raw (.func (.func f_slices_Values___api_Point_api_Point__1) #[] #[.pointer (some ⟨r0, 0, none⟩)])) ∧ bcell N ⟨r0, 0, none⟩ (r.conc Con0), fun c B hB hL => by show HC PG B _ [TV.ext c _] _; rw [hr.stable.2.2 c]; exact slValues_hc (hr.stable.1 0), vals_ne r, ?_⟩
 rintro v N4 _ ⟨r2, rfl, hb2⟩ N5 hN5
 refine hT _ _ ?_
 refine aops_step fun T S hT hS => ?_
 conv => whnf
 refine ⟨fun v _ => v = ptOf (psum M), fun c B hB hL => sum_hc (hr.mono (fun r o h => hB r o (.inl h))) (bcell_le (fun r o h => hB r o (.inr (hN5 r o (.inr h)))) hb2), ⟨_, B0, ptOf_closed _, rfl⟩, ?_⟩
 rintro v N6 _ rfl N7 hN7
 rw [e2]
 refine hT _ _ ?_
 refine aops_step fun T S hT hS => ?_
 conv => whnf
 rw [w]
 refine hT _ _ ?_
 refine aops_step fun T S hT hS => ?_
 conv => whnf
 refine hT _ _ ?_
 refine aops_end ?_
 refine hK _ _ ?_
 clear hK hR
 conv => whnf
 intro c N8 _ _
 rfl

set_option maxHeartbeats 1000000 in
set_option maxRecDepth 100000 in
theorem r7Balanced_hc {A : Base} {q r : TV} {L M : List Pnt} (hs : Sl A 9 q (L.map Pnt.cells)) (hr : Sl A 9 r (M.map Pnt.cells)) {x y x' y' : Int} {b b' : Bool} (hx : InW x) (hy : InW y) (hx' : InW x') (hy' : InW y') (e1 : ptOf (psum L) = ptV x y b) (e2 : ptOf (psum M) = ptV x' y' b') :
  HC PG A f_ref07_Balanced [q, r] fun v _ => v = .one (.bool (eqPt x y b x' y' b')) := by
 have w := peq hx hy hx' hy' ((b == b') && true)
 refine hc_start (fun _ => none) h_ref07_Balanced rfl (by kernel_rfl) (by kernel_rfl) (closedTs_iff.2 fun v hv => by
  simp only [List.mem_cons, List.not_mem_nil, or_false] at hv
  rcases hv with rfl | rfl
  ·exact hs.stable.1 0
  ·exact hr.stable.1 0) ?_
 refine swp_cut fun K hK hR _ => ?_
 conv => whnf
 refine hK _ _ ?_
 clear hK hR
 refine swp_cut fun K hK hR _ => ?_
 refine aops_step fun T S hT hS => ?_
 conv => whnf
 refine hT _ _ ?_
 refine aops_step fun T S hT hS => ?_
 conv => whnf
 refine ⟨fun v _ => v = ptOf (psum L), fun c B hB hL => by show HC PG B _ [TV.ext c _] _; rw [hs.stable.2.2 c]; exact r5Sum_hc (hs.mono (fun r o h => hB r o (.inl h))), ⟨_, B0, ptOf_closed _, rfl⟩, ?_⟩
 rintro v N2 _ rfl N3 hN3
 rw [e1]
 refine hT _ _ ?_
 refine aops_step fun T S hT hS => ?_
 conv => whnf
 refine hT _ _ ?_
 refine aops_step fun T S hT hS => ?_
 conv => whnf
 refine ⟨fun v _ => v = ptOf (psum M), fun c B hB hL => by show HC PG B _ [TV.ext c _] _; rw [hr.stable.2.2 c]; exact r5Sum_hc (hr.mono (fun r o h => hB r o (.inl h))), ⟨_, B0, ptOf_closed _, rfl⟩, ?_⟩
 rintro v N6 _ rfl N7 hN7
 rw [e2]
 refine hT _ _ ?_
 refine aops_step fun T S hT hS => ?_
 conv => whnf
 rw [w]
 refine hT _ _ ?_
 refine aops_step fun T S hT hS => ?_
 conv => whnf
 refine hT _ _ ?_
 refine aops_end ?_
 refine hK _ _ ?_
 clear hK hR
 conv => whnf
 intro c N8 _ _
 rfl

end Go.Hv
