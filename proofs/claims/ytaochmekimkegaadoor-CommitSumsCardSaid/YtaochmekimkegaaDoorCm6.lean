import Derived.Test.YtaochmekimkegaaDoorSu
import Derived.Test.YtaochmekimkegaaDoorCm3
namespace Go.Hv
open Go.Ev Go.Ec

theorem add_four {P Q R S : Pt PPn} (hP : On P) (hQ : On Q) (hR : On R) (hS : On S) : add (add P Q) (add R S) = add (add P R) (add Q S) := by
 rw [add_assoc fld P Q _ hP hQ (add_on fld _ _ hR hS), ← add_assoc fld Q R S hQ hR hS, add_comm Q R, add_assoc fld R Q S hR hQ hS, ← add_assoc fld P R _ hP hR (add_on fld _ _ hQ hS)]

theorem valP_sum {v w k l : Int} {P : Pt PPn} (h : On P) (hv : 0 ≤ v) (hw : 0 ≤ w) (hk : 0 ≤ k) (hl : 0 ≤ l) : add (valP v P k) (valP w P l) = valP (v + w) P ((k + l) % nn) := by
 unfold valP
 rw [smul_modI gP_on (by omega), Int.toNat_add hv hw, Int.toNat_add hk hl, smul_add fld P h, smul_add fld gP gP_on]
 exact add_four (smul_on fld _ h _) (smul_on fld _ gP_on _) (smul_on fld _ h _) (smul_on fld _ gP_on _)

theorem eqPt_self (x y : Int) (b : Bool) : eqPt x y b x y b = true := by simp [eqPt]

theorem u64_add (v w : Int) : wr .u64 (v + w) = .int .u64 ((v + w) % 18446744073709551616) := by
 simp only [wr]

theorem balanced_t {A : Base} {q r : Sc} {L M : List Pnt} (hs : Sl A 9 (.one q) (L.map Pnt.cells)) (hr : Sl A 9 (.one r) (M.map Pnt.cells)) (e : psum L = psum M) : HC PG A f_commit_Balanced [.one q, .one r] fun v _ => v = .one (.bool true) := by
 obtain ⟨x, y, b, ix, iy, e1, _, _⟩ := pt_nm _ (psum_on L)
 have h := balanced_hc hs hr ix iy ix iy e1 (e ▸ e1)
 rw [eqPt_self] at h
 exact h

set_option maxHeartbeats 2000000 in
set_option maxRecDepth 100000 in
theorem lawCommitSums_hc {A : Base} {D : List Int} {v0 v1 k0 k1 k2 : Int} (hTb : Tab A) (hD : D.length = 32) (hD8 : ∀ z ∈ D, 0 ≤ z ∧ z < 256) (hv0 : InU v0) (hv1 : InU v1) (h0 : InW k0) (h1 : InW k1) (h2 : InW k2) :
  HC PG A f_law07_CommitSums [.agg (u8s D), .agg [u v0, u v1], .agg (words k0 ++ (words k1 ++ words k2))] fun v _ => v = .one (.bool true) := by
 refine hc_start (fun _ => none) h_law07_CommitSums rfl (by kernel_rfl) (by kernel_rfl) (closedTs_iff.2 fun v hv => by
  simp only [List.mem_cons, List.not_mem_nil, or_false] at hv
  rcases hv with rfl | rfl | rfl
  ·exact ints_cl _ _ 0
  ·rfl
  ·rfl) ?_
 have hex : ∀ c, extL c (u8s D) = u8s D := fun c => extL_closed c (ints_cl _ _ 0)
 have htk := u8_all hD
 have a7 := alive7_fn
 obtain ⟨P, on1, aC, _⟩ := asset_hc hD hD8 h2
 obtain ⟨px, py, pb, ipx, ipy, ep, tp, _⟩ := pt_nm P on1
 rw [ep] at aC
 have cC := fun (B : Base) (hB : Base.le A B) => aC B (ERead_le hB hTb)
 have va := value_fn (b := pb) hv0 ipx ipy h0
 have vb := value_fn (b := pb) hv1 ipx ipy h1
 have hsum := valP_sum on1 hv0.1 hv1.1 h0.1 h1.1
 have cs := r5AddS_fn h0 h1
 have hnn : InW ((k0 + k1) % nn) := by unfold nn; exact ⟨by omega, by omega⟩
 have vc := fun (hs : InU (v0 + v1)) => value_fn (b := pb) hs ipx ipy hnn
 rw [tp] at va vb vc
 have ona := valP_on (v := v0) (k := k0) on1
 have onb := valP_on (v := v1) (k := k1) on1
 have onc := valP_on (v := v0 + v1) (k := (k0 + k1) % nn) on1
 generalize valP v0 P k0 = Pa at *
 generalize valP v1 P k1 = Pb at *
 generalize valP (v0 + v1) P ((k0 + k1) % nn) = Pc at *
 obtain ⟨ax, ay, ab, iax, iay, ea, ta, _⟩ := pt_nm Pa ona
 obtain ⟨bx, b_y, bb, ibx, iby, eb, tb, _⟩ := pt_nm Pb onb
 obtain ⟨cx, cy, cb, icx, icy, ec, tc, _⟩ := pt_nm Pc onc
 rw [ea] at va
 rw [eb] at vb
 rw [ec] at vc
 have s1 : psum [⟨(ax, ay, ab), iax, iay⟩, ⟨(bx, b_y, bb), ibx, iby⟩] = psum [⟨(cx, cy, cb), icx, icy⟩] := by
  show add (add none (tkn ax ay ab)) (tkn bx b_y bb) = add none (tkn cx cy cb)
  rw [ta, tb, tc, none_add fld _ ona, none_add fld _ onc]
  exact hsum
 have s2 : psum [⟨(cx, cy, cb), icx, icy⟩] = psum [⟨(bx, b_y, bb), ibx, iby⟩, ⟨(ax, ay, ab), iax, iay⟩] := by
  rw [← s1]
  show add (add none (tkn ax ay ab)) (tkn bx b_y bb) = add (add none (tkn bx b_y bb)) (tkn ax ay ab)
  rw [ta, tb, none_add fld _ ona, none_add fld _ onb]
  exact add_comm _ _
 have wadd := u64_add v0 v1
 have hlt : ∀ z, z = (v0 + v1) % 18446744073709551616 → decide (z < v0) = false → z = v0 + v1 ∧ InU (v0 + v1) := fun z e h => by
  have h := of_decide_eq_false h
  obtain ⟨a1, a2⟩ := hv0
  obtain ⟨b1, b2⟩ := hv1
  subst e
  unfold InU
  omega
 refine swp_cut fun K hK hR _ => ?_
 conv => whnf
 refine hK _ _ ?_
 clear hK hR
 refine swp_cut fun K hK hR _ => ?_
 refine swp_cut fun K2 hK2 hR2 _ => ?_
 refine aops_step fun T S hT hS => ?_
 conv => whnf
 refine ⟨_, a7, rfl, ?_⟩
 refine hT _ _ ?_
 refine aops_step fun T S hT hS => ?_
 conv => whnf
 refine hT _ _ ?_
 refine aops_end ?_
 refine hK2 _ _ ?_
 conv => whnf
 refine hK _ _ ?_
 clear hK hR hK2 hR2
 refine swp_cut fun K hK hR _ => ?_
 refine aops_step fun T S hT hS => ?_
 conv => whnf
 conv in (takeAt _ _ _) => change takeAt (u8s D) 0 32; rw [htk]
 conv => whnf
 refine hT _ _ ?_
 iterate 2 (refine aops_step fun T S hT hS => ?_; (conv => whnf); refine hT _ _ ?_)
 refine aops_step fun T S hT hS => ?_
 conv => whnf
 refine ⟨fun v _ => v = ptV px py pb, fun c B hB hL => by
  show HC PG B f_commit_Asset [.agg (extL c (u8s D)), W k2] _
  rw [hex c]
  exact cC B (fun r o h => hB r o (.inl h)), ⟨_, B0, rfl, rfl⟩, ?_⟩
 rintro v N' _ rfl N1 _
 refine hT _ _ ?_
 iterate 2 (refine aops_step fun T S hT hS => ?_; (conv => whnf); refine hT _ _ ?_)
 refine aops_end ?_
 refine hK _ _ ?_
 clear hK hR
 refine swp_cut fun K hK hR _ => ?_
 iterate 5 (refine aops_step fun T S hT hS => ?_; (conv => whnf); refine hT _ _ ?_)
 refine aops_step fun T S hT hS => ?_
 conv => whnf
 refine ⟨_, va, rfl, ?_⟩
 refine hT _ _ ?_
 iterate 2 (refine aops_step fun T S hT hS => ?_; (conv => whnf); refine hT _ _ ?_)
 refine aops_end ?_
 refine hK _ _ ?_
 clear hK hR
 refine swp_cut fun K hK hR _ => ?_
 iterate 5 (refine aops_step fun T S hT hS => ?_; (conv => whnf); refine hT _ _ ?_)
 refine aops_step fun T S hT hS => ?_
 conv => whnf
 refine ⟨_, vb, rfl, ?_⟩
 refine hT _ _ ?_
 iterate 2 (refine aops_step fun T S hT hS => ?_; (conv => whnf); refine hT _ _ ?_)
 refine aops_end ?_
 refine hK _ _ ?_
 clear hK hR
 refine swp_cut fun K hK hR _ => ?_
 generalize hz : (v0 + v1) % 18446744073709551616 = z at *
 iterate 4 (refine aops_step fun T S hT hS => ?_; (conv => whnf); refine hT _ _ ?_)
 refine aops_step fun T S hT hS => ?_
 conv => whnf
 rw [wadd]
 refine hT _ _ ?_
 refine aops_step fun T S hT hS => ?_
 conv => whnf
 refine hT _ _ ?_
 refine aops_end ?_
 refine hK _ _ ?_
 clear hK hR
 have hlt := hlt z rfl
 refine swp_cut fun K hK hR _ => ?_
 refine swp_cut fun K2 hK2 hR2 _ => ?_
 iterate 4 (refine aops_step fun T S hT hS => ?_; (conv => whnf); refine hT _ _ ?_)
 refine aops_end ?_
 refine hK2 _ _ ?_
 clear hK2 hR2
 generalize hd : decide (z < v0) = dd at *
 cases dd with
 | true =>
  conv => whnf
  refine hR _ _ ?_
  conv => whnf
  intro c N8 _ _
  rfl
 | false =>
  obtain ⟨e1, e2⟩ := hlt rfl
  conv => whnf
  refine hK _ _ ?_
  clear hK hR
  subst e1
  have vc := vc e2
  have all9 : ∀ {l : List Pnt}, ∀ y ∈ l.map Pnt.cells, y.length = 9 := fun y hy => by
   obtain ⟨t, _, rfl⟩ := List.mem_map.1 hy
   rfl
  refine swp_cut fun K hK hR _ => ?_
  iterate 6 (refine aops_step fun T S hT hS => ?_; (conv => whnf); refine hT _ _ ?_)
  refine aops_step fun T S hT hS => ?_
  conv => whnf
  refine ⟨_, cs, rfl, ?_⟩
  refine hT _ _ ?_
  refine aops_step fun T S hT hS => ?_
  conv => whnf
  refine ⟨_, vc, rfl, ?_⟩
  refine hT _ _ ?_
  iterate 2 (refine aops_step fun T S hT hS => ?_; (conv => whnf); refine hT _ _ ?_)
  refine aops_end ?_
  refine hK _ _ ?_
  clear hK hR
  refine swp_cut fun K hK hR _ => ?_
  iterate 5 (refine aops_step fun T S hT hS => ?_; (conv => whnf); refine hT _ _ ?_)
  refine aops_step fun T S hT hS => ?_
  conv => whnf
  refine ⟨fun v _ => v = .one (.bool true), fun c B hB hL => balanced_t (L := [⟨(ax, ay, ab), iax, iay⟩, ⟨(bx, b_y, bb), ibx, iby⟩]) (M := [⟨(cx, cy, cb), icx, icy⟩]) (sl_lent (b := 7) (o := 0) (L := List.map Pnt.cells [⟨(ax, ay, ab), iax, iay⟩, ⟨(bx, b_y, bb), ibx, iby⟩]) (post := []) hL rfl rfl rfl rfl (Nat.le_refl 2) (by show 2 ≤ 140737488355128; omega) all9) (sl_lent (b := 8) (o := 0) (L := List.map Pnt.cells [⟨(cx, cy, cb), icx, icy⟩]) (post := []) hL rfl rfl rfl rfl (Nat.le_refl 1) (by show 1 ≤ 140737488355128; omega) all9) s1, ⟨_, B0, rfl, rfl⟩, ?_⟩
  rintro v N' _ rfl N1 _
  refine hT _ _ ?_
  iterate 6 (refine aops_step fun T S hT hS => ?_; (conv => whnf); refine hT _ _ ?_)
  refine aops_step fun T S hT hS => ?_
  conv => whnf
  refine ⟨fun v _ => v = .one (.bool true), fun c B hB hL => balanced_t (L := [⟨(cx, cy, cb), icx, icy⟩]) (M := [⟨(bx, b_y, bb), ibx, iby⟩, ⟨(ax, ay, ab), iax, iay⟩]) (sl_lent (b := 9) (o := 0) (L := List.map Pnt.cells [⟨(cx, cy, cb), icx, icy⟩]) (post := []) hL rfl rfl rfl rfl (Nat.le_refl 1) (by show 1 ≤ 140737488355128; omega) all9) (sl_lent (b := 10) (o := 0) (L := List.map Pnt.cells [⟨(bx, b_y, bb), ibx, iby⟩, ⟨(ax, ay, ab), iax, iay⟩]) (post := []) hL rfl rfl rfl rfl (Nat.le_refl 2) (by show 2 ≤ 140737488355128; omega) all9) s2, ⟨_, B0, rfl, rfl⟩, ?_⟩
  rintro v N' _ rfl N1 _
  refine hT _ _ ?_
  iterate 2 (refine aops_step fun T S hT hS => ?_; (conv => whnf); refine hT _ _ ?_)
  refine aops_step fun T S hT hS => ?_
  conv => whnf
  refine ⟨fun v _ => v = .one (.bool true), fun c B hB hL => balanced_t (q := .slice none 0 0) (r := .slice none 0 0) (L := []) (M := []) ⟨none, 0, rfl, ⟨Nat.le_refl _, Nat.zero_le _⟩, fun x hx => (by cases hx), rfl, rfl⟩ ⟨none, 0, rfl, ⟨Nat.le_refl _, Nat.zero_le _⟩, fun x hx => (by cases hx), rfl, rfl⟩ rfl, ⟨_, B0, rfl, rfl⟩, ?_⟩
  rintro v N' _ rfl N1 _
  refine hT _ _ ?_
  iterate 2 (refine aops_step fun T S hT hS => ?_; (conv => whnf); refine hT _ _ ?_)
  refine aops_end ?_
  refine hK _ _ ?_
  clear hK hR
  conv => whnf
  intro c N8 _ _
  rfl

end Go.Hv
