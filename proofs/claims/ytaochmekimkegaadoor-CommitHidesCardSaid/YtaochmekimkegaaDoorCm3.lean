import Derived.Test.YtaochmekimkegaaDoorCm1
import Derived.Test.YtaochmekimkegaaDoorGn1
import Derived.Test.YtaochmekimkegaaDoorOpC
namespace Go.Hv
open Go.Ev Go.Ec

def ordAs : Nat → Option (List Nat)
 | 1 => some [0, 2, 1, 3, 4, 5, 6]
 | _ => none

theorem u8_all {D : List Int} (hD : D.length = 32) : takeAt (u8s D) 0 32 = some (u8s D) := by
 have := takeAt_app [] (u8s D) []
 rw [List.append_nil, List.length_map, hD] at this
 exact this

set_option maxHeartbeats 1000000 in
set_option maxRecDepth 100000 in
theorem assetG_hc {D : List Int} {k : Int} (hD : D.length = 32) (hD8 : ∀ z ∈ D, 0 ≤ z ∧ z < 256) (hk : InW k) : ∃ x y, InW x ∧ InW y ∧ genV D = ptV x y false ∧ ∃ P : Pt PPn, P = add (tkn x y false) (smul k.toNat gP) ∧ On P ∧
  (∀ A, Tab A → HC PG A f_commit_Asset [.agg (u8s D), W k] fun v _ => v = ptOf P) ∧ (∀ A, Tab0 A → HC PG A f_ref07_Asset [.agg (u8s D), W k] fun v _ => v = ptOf P) := by
 obtain ⟨x, y, ix, iy, _, eg⟩ := genT_pt D 256 0
 have eg : genV D = .agg (ptC x y false) := eg
 refine ⟨x, y, ix, iy, eg, ?_⟩
 obtain ⟨gx, gy, gb, igx, igy, egp, tg, _⟩ := pt_nm gP gP_on
 have cb := base_fn
 have rb := r5base_fn
 have cm := cMul_fn (b := gb) hk igx igy
 have rm := r5Mul7 (b := gb) hk igx igy
 rw [tg] at cm rm
 rw [egp] at cb rb
 have on1 := smul_on fld gP gP_on k.toNat
 generalize smul k.toNat gP = Q at *
 obtain ⟨mx, my, mb, imx, imy, em, tm, _⟩ := pt_nm Q on1
 rw [← tm]
 rw [em] at cm rm
 have ca := cAdd_fn (b := false) (b' := mb) ix iy imx imy
 have ra := r5Add_fn (b := false) (b' := mb) ix iy imx imy
 have on2 := add_on fld (tkn x y false) (tkn mx my mb) (tkn_on _ _ _) (tkn_on _ _ _)
 refine ⟨add (tkn x y false) (tkn mx my mb), rfl, on2, ?_⟩
 generalize add (tkn x y false) (tkn mx my mb) = P at *
 obtain ⟨px, py, pb, _, _, ep, _, _⟩ := pt_nm P on2
 rw [ep] at ca ra ⊢
 have hex : ∀ c, extL c (u8s D) = u8s D := fun c => extL_closed c (ints_cl _ _ 0)
 have htk := u8_all hD
 have hcl : closedTs 0 [.agg (u8s D), W k] = true := closedTs_iff.2 fun v hv => by
  simp only [List.mem_cons, List.not_mem_nil, or_false] at hv
  rcases hv with rfl | rfl
  ·exact ints_cl _ _ 0
  ·rfl
 refine ⟨fun A hTb => ?_, fun A hTb => ?_⟩
 ·have cg := fun (B : Base) (hB : Base.le A B) => genc_hc (A := B) (D := D) (ERead_le hB hTb) hD
  rw [eg] at cg
  refine hc_start ordAs h_commit_Asset rfl (by kernel_rfl) (by kernel_rfl) hcl ?_
  refine swp_cut fun K hK hR _ => ?_
  conv => whnf
  refine hK _ _ ?_
  clear hK hR
  refine swp_cut fun K hK hR _ => ?_
  refine aops_step fun T S hT hS => ?_
  conv => whnf
  conv in (takeAt _ _ _) => change takeAt (u8s D) 0 32; rw [htk]
  conv => whnf
  refine hT _ _ ?_
  refine aops_step fun T S hT hS => ?_
  conv => whnf
  refine hT _ _ ?_
  refine aops_step fun T S hT hS => ?_
  conv => whnf
  refine ⟨fun v _ => v = .agg (ptC x y false), fun c B hB hL => by
   show HC PG B f_curve_Generator [.agg (extL c (u8s D))] _
   rw [hex c]
   exact cg B (fun r o h => hB r o (.inl h)), ⟨_, B0, rfl, rfl⟩, ?_⟩
  rintro v N' _ rfl N1 _
  refine hT _ _ ?_
  refine aops_step fun T S hT hS => ?_
  conv => whnf
  refine ⟨_, cb, rfl, ?_⟩
  refine hT _ _ ?_
  refine aops_step fun T S hT hS => ?_
  conv => whnf
  refine ⟨_, cm, rfl, ?_⟩
  refine hT _ _ ?_
  refine aops_step fun T S hT hS => ?_
  conv => whnf
  refine ⟨_, ca, rfl, ?_⟩
  refine hT _ _ ?_
  refine aops_step fun T S hT hS => ?_
  conv => whnf
  refine hT _ _ ?_
  refine aops_end ?_
  refine hK _ _ ?_
  conv => whnf
  intro c N2 _ _
  rfl
 ·have cg := fun (B : Base) (hB : Base.le A B) => genr_hc (A := B) (D := D) (ERead_le hB hTb) hD hD8
  rw [eg] at cg
  refine hc_start ordAs h_ref07_Asset rfl (by kernel_rfl) (by kernel_rfl) hcl ?_
  refine swp_cut fun K hK hR _ => ?_
  conv => whnf
  refine hK _ _ ?_
  clear hK hR
  refine swp_cut fun K hK hR _ => ?_
  refine aops_step fun T S hT hS => ?_
  conv => whnf
  conv in (takeAt _ _ _) => change takeAt (u8s D) 0 32; rw [htk]
  conv => whnf
  refine hT _ _ ?_
  refine aops_step fun T S hT hS => ?_
  conv => whnf
  refine hT _ _ ?_
  refine aops_step fun T S hT hS => ?_
  conv => whnf
  refine ⟨fun v _ => v = .agg (ptC x y false), fun c B hB hL => by
   show HC PG B f_ref05_Generator [.agg (extL c (u8s D))] _
   rw [hex c]
   exact cg B (fun r o h => hB r o (.inl h)), ⟨_, B0, rfl, rfl⟩, ?_⟩
  rintro v N' _ rfl N1 _
  refine hT _ _ ?_
  refine aops_step fun T S hT hS => ?_
  conv => whnf
  refine ⟨_, rb, rfl, ?_⟩
  refine hT _ _ ?_
  refine aops_step fun T S hT hS => ?_
  conv => whnf
  refine ⟨_, rm, rfl, ?_⟩
  refine hT _ _ ?_
  refine aops_step fun T S hT hS => ?_
  conv => whnf
  refine ⟨_, ra, rfl, ?_⟩
  refine hT _ _ ?_
  refine aops_step fun T S hT hS => ?_
  conv => whnf
  refine hT _ _ ?_
  refine aops_end ?_
  refine hK _ _ ?_
  conv => whnf
  intro c N2 _ _
  rfl

theorem asset_hc {D : List Int} {k : Int} (hD : D.length = 32) (hD8 : ∀ z ∈ D, 0 ≤ z ∧ z < 256) (hk : InW k) : ∃ P : Pt PPn, On P ∧
  (∀ A, Tab A → HC PG A f_commit_Asset [.agg (u8s D), W k] fun v _ => v = ptOf P) ∧ (∀ A, Tab0 A → HC PG A f_ref07_Asset [.agg (u8s D), W k] fun v _ => v = ptOf P) := by
 obtain ⟨_, _, _, _, _, P, _, h⟩ := assetG_hc hD hD8 hk
 exact ⟨P, h⟩

set_option maxHeartbeats 1000000 in
set_option maxRecDepth 100000 in
theorem rvalue_fn {v x y k : Int} {b : Bool} (hv : InU v) (hx : InW x) (hy : InW y) (hk : InW k) : Ev.Fn PG f_ref07_Value [.one (u v), ptV x y b, W k] (ptOf (valP v (tkn x y b) k)) := by
 refine fn_startH (fun _ => none) h_ref07_Value rfl (by kernel_rfl) (fun _ => by kernel_rfl) rfl (ptOf_closed _) fun A => ?_
 obtain ⟨gx, gy, gb, igx, igy, egp, tg, _⟩ := pt_nm gP gP_on
 have rb := r5base_fn
 have m1 := r5Mul7 (b := b) (u_in hv) hx hy
 have m2 := r5Mul7 (b := gb) hk igx igy
 rw [tg] at m2
 rw [egp] at rb
 rw [W_u hv] at m1
 have on1 := smul_on fld (tkn x y b) (tkn_on x y b) v.toNat
 have on2 := smul_on fld gP gP_on k.toNat
 unfold valP
 generalize smul k.toNat gP = Q at *
 generalize smul v.toNat (tkn x y b) = R at *
 obtain ⟨qx, qy, qb, iqx, iqy, eq, tq, _⟩ := pt_nm Q on2
 obtain ⟨rx, ry, rr, irx, iry, er, tr, _⟩ := pt_nm R on1
 rw [eq] at m2
 rw [er] at m1
 have ra := r5Add_fn (b := rr) (b' := qb) irx iry iqx iqy
 rw [tr, tq] at ra
 have on3 := add_on fld R Q on1 on2
 generalize add R Q = P at *
 obtain ⟨px, py, pb, _, _, ep, _, _⟩ := pt_nm P on3
 rw [ep] at ra ⊢
 refine swp_cut fun K hK hR _ => ?_
 conv => whnf
 refine hK _ _ ?_
 clear hK hR
 refine swp_cut fun K hK hR _ => ?_
 iterate 3 (refine aops_step fun T S hT hS => ?_; (conv => whnf); refine hT _ _ ?_)
 refine aops_step fun T S hT hS => ?_
 conv => whnf
 refine ⟨_, m1, rfl, ?_⟩
 refine hT _ _ ?_
 refine aops_step fun T S hT hS => ?_
 conv => whnf
 refine hT _ _ ?_
 refine aops_step fun T S hT hS => ?_
 conv => whnf
 refine ⟨_, rb, rfl, ?_⟩
 refine hT _ _ ?_
 refine aops_step fun T S hT hS => ?_
 conv => whnf
 refine ⟨_, m2, rfl, ?_⟩
 refine hT _ _ ?_
 refine aops_step fun T S hT hS => ?_
 conv => whnf
 refine ⟨_, ra, rfl, ?_⟩
 refine hT _ _ ?_
 refine aops_step fun T S hT hS => ?_
 conv => whnf
 refine hT _ _ ?_
 refine aops_end ?_
 refine hK _ _ ?_
 conv => whnf
 intro c N2 _ _
 rfl

theorem opC_0 {D : List Int} (hD : D.length = 32) (w s r : Int) : takeAt (opC D w s r) 0 32 = some (u8s D) := by
 have := takeAt_app [] (u8s D) ([u w] ++ (words s ++ words r))
 rw [List.length_map, hD] at this
 exact this
theorem opC_32 {D : List Int} (hD : D.length = 32) (w s r : Int) : takeAt (opC D w s r) 32 1 = some [u w] := by
 have := takeAt_app (u8s D) [u w] (words s ++ words r)
 rw [List.length_map, hD] at this
 exact this
theorem opC_33 {D : List Int} (hD : D.length = 32) (w s r : Int) : takeAt (opC D w s r) 33 4 = some (words s) := by
 have := takeAt_app (u8s D ++ [u w]) (words s) (words r)
 rw [List.length_append, List.length_map, hD, List.append_assoc] at this
 exact this
theorem opC_37 {D : List Int} (hD : D.length = 32) (w s r : Int) : takeAt (opC D w s r) 37 4 = some (words r) := by
 have := takeAt_app (u8s D ++ ([u w] ++ words s)) (words r) []
 rw [List.length_append, List.length_map, hD, List.append_nil, List.append_assoc, List.append_assoc] at this
 exact this

def ordCp : Nat → Option (List Nat)
 | 1 => some [0, 1, 2, 3, 4, 5, 7, 8, 9, 10, 6, 11, 12, 13, 14, 15, 16, 17, 18, 19, 20, 21, 22, 23, 24, 25, 26, 27, 28, 29]
 | _ => none

end Go.Hv
