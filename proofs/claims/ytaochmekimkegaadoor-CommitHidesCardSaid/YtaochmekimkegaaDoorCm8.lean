import Derived.Test.YtaochmekimkegaaDoorCm5
namespace Go.Hv
open Go.Ev Go.Ec

def ordCh : Nat → Option (List Nat)
 | 7 => some [0, 1, 2, 4, 5, 3, 6, 7, 8]
 | 9 => some [0, 1, 2, 3, 4, 6, 7, 8, 9, 10, 11, 13, 14, 5, 12, 15, 16, 17]
 | _ => none

theorem pval_b1 {T : Tys} {t : TypeId} {e : Env} {i : Nat} {x : Operand} {v : TV} {fs : List (Nat × Nat × Bool)} {z l : List Sc} {ag eq : Bool} {sz : Nat} (hx : opv e x = some v) (hl : lk T t = some ⟨ag, sz, z, eq, .struct fs⟩) (hf : fillS fs z [(i, v)] = some l) : pvalH T (.build t #[(i, x)]) e = some (.agg l) := by
 have h1 : pval T (.build t #[(i, x)]) e = some (.agg l) := by
  simp only [pval, hl, opvP, hx, hf]
 unfold pvalH
 rw [h1]

theorem fill_tag {D : List Int} (hD : D.length = 32) : fillS [(0, 1, false), (1, 32, true), (33, 9, true)] (tagC false zD 0 0 false) [(1, .agg (u8s D))] = some (tagC false D 0 0 false) := by
 have h : putAt (tagC false zD 0 0 false) 1 (u8s D) = some (tagC false D 0 0 false) := putAt_app [.bool false] (u8s zD) (ptC 0 0 false) (u8s D) (by rw [List.length_map, List.length_map, hD]; rfl)
 have hb : Nat.beq 32 (u8s D).length = true := by rw [List.length_map, hD]; rfl
 show (match Nat.beq 32 (u8s D).length with | true => (match putAt (tagC false zD 0 0 false) 1 (u8s D) with | some cs' => fillS _ cs' [] | none => none) | false => none) = _
 rw [hb, h]
 rfl

theorem putAt_all {a b : List Sc} (h : a.length = b.length) : putAt a 0 b = some b := by
 have := putAt_app [] a [] b h
 simpa using this

theorem op_z1 {D : List Int} (hD : D.length = 32) (w s r : Int) : putAt (opC D w s r) 33 (words 0) = some (opC D w 0 r) := by
 have := putAt_app (u8s D ++ [u w]) (words s) (words r) (words 0) rfl
 rw [List.length_append, List.length_map, hD, List.append_assoc, List.append_assoc] at this
 exact this
theorem op_z2 {D : List Int} (hD : D.length = 32) (w s r : Int) : putAt (opC D w s r) 37 (words 0) = some (opC D w s 0) := by
 have := putAt_app (u8s D ++ ([u w] ++ words s)) (words r) [] (words 0) rfl
 rw [List.length_append, List.length_map, hD, List.append_nil, List.append_nil, List.append_assoc, List.append_assoc, List.append_assoc, List.append_assoc] at this
 exact this

theorem opensB_ok {rt ra l l2 et ed es ev ew er : Bool} (h1 : l = true → et = true) (h2 : l = false → ed = true ∧ es = true) (h3 : l2 = true → ev = true) (h4 : l2 = false → ew = true ∧ er = true) : opensB rt ra l l2 et ed es ev ew er = (rt && ra) := by
 cases rt with
 | false => rfl
 | true => cases ra with
  | false => rfl
  | true =>
   cases l with
   | true =>
    rw [h1 rfl]
    cases l2 with
    | true => rw [h3 rfl]; rfl
    | false => rw [(h4 rfl).1, (h4 rfl).2]; rfl
   | false =>
    rw [(h2 rfl).1, (h2 rfl).2]
    cases l2 with
    | true => rw [h3 rfl]; rfl
    | false => rw [(h4 rfl).1, (h4 rfl).2]; rfl

theorem eqPt_refl (x y : Int) (b : Bool) : eqPt x y b x y b = true := by simp [eqPt]
theorem op_all {D : List Int} (hD : D.length = 32) (w s r : Int) : takeAt (opC D w s r) 0 41 = some (opC D w s r) := by
 have := takeAt_app [] (opC D w s r) []
 rw [List.append_nil, show (opC D w s r).length = 41 by simp [opC, words, hD]] at this
 exact this
theorem valP_z {w : Int} {P : Pt PPn} (h : On P) : valP w P 0 = smul w.toNat P := by
 unfold valP
 show add _ none = _
 exact add_none fld _ (smul_on fld _ h _)

set_option maxHeartbeats 4000000 in
set_option maxRecDepth 100000 in
theorem lawCommitHides_hc {A : Base} {D : List Int} {w s r : Int} (hTb : Tab A) (hTr : Tab0 A) (hD : D.length = 32) (hD8 : ∀ z ∈ D, 0 ≤ z ∧ z < 256) (hw : InU w) (hs : InW s) (hr : InW r) (tb ab : Bool) : HC PG A f_law07_CommitHides [.agg (opC D w s r), .one (.bool tb), .one (.bool ab)] fun v _ => v = .one (.bool true) := by
 refine hc_start ordCh h_law07_CommitHides rfl (by kernel_rfl) (by kernel_rfl) (closedTs_iff.2 fun v hv => by
  simp only [List.mem_cons, List.not_mem_nil, or_false] at hv
  rcases hv with rfl | rfl | rfl
  ·exact op_cl D w s r
  ·rfl
  ·rfl) ?_
 have a7 := alive7_fn
 have hz0 : InW 0 := ⟨by omega, by omega⟩
 have hu0 : InU 0 := ⟨by omega, by omega⟩
 have hzD : zD.length = 32 := rfl
 have hzD8 : ∀ z ∈ zD, 0 ≤ z ∧ z < 256 := fun z hz => by
  have := List.eq_of_mem_replicate hz
  omega
 have hn0 : decide ((0 : Int) % nn = 0) = true := by decide
 have hDD : (D == D) = true := beq_self_eq_true D
 have hex : ∀ c, extL c (u8s D) = u8s D := fun c => extL_closed c (ints_cl _ _ 0)
 have hbuild := fill_tag hD
 have o0 := opC_0 hD w s r
 have o32 := opC_32 hD w s r
 have o33 := opC_33 hD w s r
 have o37 := opC_37 hD w s r
 have t42 := tag_all hD false 0 0 false
 have tgl : Nat.beq 42 (tagC false D 0 0 false).length = true := by rw [show (tagC false D 0 0 false).length = 42 by simp [tagC, ptC, words, hD]]; rfl
 have tgp : putAt (tagC false zD 0 0 false) 0 (tagC false D 0 0 false) = some (tagC false D 0 0 false) := putAt_all (by simp [tagC, hD, hzD])
 cases tb with
 | false =>
  obtain ⟨gx, gy, igx, igy, eg, P, eP, on1, aC, aR⟩ := assetG_hc hD hD8 hz0
  obtain ⟨px, py, pb, ipx, ipy, ep, tp, _⟩ := pt_nm P on1
  rw [ep] at aC aR
  have tu : tkn gx gy false = P := by
   rw [eP]
   show _ = add _ none
   exact (add_none fld _ (tkn_on _ _ _)).symm
  have cR := fun (B : Base) (hB : Base.le A B) => aR B (ERead_le hB hTr)
  have pz := op_z1 hD w s r
  have q0 := opC_0 hD w 0 r
  have q32 := opC_32 hD w 0 r
  have q33 := opC_33 hD w 0 r
  have q37 := opC_37 hD w 0 r
  cases ab with
  | false =>
   obtain ⟨qx, qy, qb, iqx, iqy, eq, _, _⟩ := pt_nm _ (valP_on (v := w) (k := 0) on1)
   have cM := fun (B : Base) (hB : Base.le A B) => amtC_hc (x' := 0) (y' := 0) (x := 0) (y := 0) hD hD8 false false hw false false igx igy eg B (ERead_le hB hTb)
   simp only [tu] at cM
   rw [valP_z on1] at eq
   simp only [eq] at cM
   rw [← valP_z on1] at eq
   have pz2 := op_z2 hD w 0 r
   have n0 := opC_0 hD w 0 0
   have n32 := opC_32 hD w 0 0
   have n33 := opC_33 hD w 0 0
   have n37 := opC_37 hD w 0 0
   have rv := rvalue_fn (b := pb) hw ipx ipy hz0
   rw [tp, eq] at rv
   rw [← tp] at eq
   have cO := fun (B : Base) (hB : Base.le A B) => opens_hc (A := B) (l := false) (D := D) (x := 0) (y := 0) (b := false) (l2 := false) (w2 := w) (x2 := 0) (y2 := 0) (b2 := false) hD hz0 hz0 hz0 hz0 hD hw hz0 hz0 (fun C hC => (fun C hC => aC C (ERead_le hC hTb)) C (fun r o h => hC r o (hB r o h))) ipx ipy iqx iqy eq
   have eO : ∀ rt ra et ev, opensB rt ra false false et (D == D) (decide ((0 : Int) % nn = 0)) ev (w == w) (decide ((0 : Int) % nn = 0)) = (rt && ra) := fun _ _ _ _ => opensB_ok (fun h => by cases h) (fun _ => ⟨hDD, hn0⟩) (fun h => by cases h) (fun _ => ⟨beq_self_eq_true w, hn0⟩)
   simp only [eO] at cO
   have c1 := rightTag_fn (l := false) (D := D) (b := false) (x := 0) (y := 0) hD hz0 hz0
   have c2 := rightAmount_fn (l := false) (w := w) (b := false) (x := 0) (y := 0) hz0 hz0
   generalize rightT false D 0 0 false = rt at *
   generalize rightA false w 0 0 false = ra at *
   have w9 := same9 qx qy qb
   have wr2 : (ra == ra) = true := beq_self_eq_true _
   have tcl := tag_cls false D 0 0 false
   have tex : ∀ c, extL c (tagC false D 0 0 false) = tagC false D 0 0 false := fun c => extL_closed c (tag_cl _ _ _ _ _)
   have oall := op_all hD w 0 0
   have oex : ∀ c, extL c (opC D w 0 0) = opC D w 0 0 := fun c => extL_closed c (op_cl D w 0 0)
   generalize hO : opC D w s r = OP at *
   generalize hO1 : opC D w 0 r = OQ at *
   generalize hO2 : opC D w 0 0 = ON at *
   generalize hG : tagC false D 0 0 false = TG at *
   refine swp_cut fun K hK hR _ => ?_
   conv => whnf
   refine hK _ _ ?_
   clear hK hR
   refine swp_cut fun K hK hR _ => ?_
   refine aops_step fun T S hT hS => ?_
   conv => whnf
   refine hT _ _ ?_
   refine aops_step fun T S hT hS => ?_
   conv => whnf
   conv in (takeAt _ _ _) => change takeAt OP 0 32; rw [o0]
   conv => whnf
   refine hT _ _ ?_
   refine aops_step fun T S hT hS => ?_
   conv => whnf
   rw [pval_b1 (v := .agg (u8s D)) (l := TG) rfl rfl hbuild]
   conv => whnf
   refine hT _ _ ?_
   refine aops_step fun T S hT hS => ?_
   conv => whnf
   refine hT _ _ ?_
   refine aops_step fun T S hT hS => ?_
   conv => whnf
   conv in (Nat.beq _ _) => change Nat.beq 42 TG.length; rw [tgl]
   conv => whnf
   conv in (putAt _ _ _) => change putAt (tagC false zD 0 0 false) 0 TG; rw [tgp]
   conv => whnf
   refine hT _ _ ?_
   refine aops_end ?_
   refine hK _ _ ?_
   clear hK hR
   refine swp_cut fun K hK hR _ => ?_
   refine swp_cut fun K2 hK2 hR2 _ => ?_
   refine aops_step fun T S hT hS => ?_
   conv => whnf
   refine hT _ _ ?_
   refine aops_end ?_
   refine hK2 _ _ ?_
   clear hK2 hR2
   conv => whnf
   conv in (putAt _ _ _) => change putAt OP 33 (words 0); rw [pz]
   conv => whnf
   refine hK _ _ ?_
   clear hK hR
   refine swp_cut fun K hK hR _ => ?_
   refine aops_step fun T S hT hS => ?_
   conv => whnf
   refine hT _ _ ?_
   refine aops_step fun T S hT hS => ?_
   conv => whnf
   conv in (takeAt _ _ _) => change takeAt OQ 32 1; rw [q32]
   conv => whnf
   refine hT _ _ ?_
   iterate 3 (refine aops_step fun T S hT hS => ?_; (conv => whnf); refine hT _ _ ?_)
   refine aops_end ?_
   refine hK _ _ ?_
   clear hK hR
   refine swp_cut fun K hK hR _ => ?_
   refine swp_cut fun K2 hK2 hR2 _ => ?_
   refine aops_step fun T S hT hS => ?_
   conv => whnf
   refine hT _ _ ?_
   refine aops_end ?_
   refine hK2 _ _ ?_
   clear hK2 hR2
   conv => whnf
   conv in (putAt _ _ _) => change putAt OQ 37 (words 0); rw [pz2]
   conv => whnf
   refine hK _ _ ?_
   clear hK hR
   refine swp_cut fun K hK hR _ => ?_
   refine swp_cut fun K2 hK2 hR2 _ => ?_
   refine aops_step fun T S hT hS => ?_
   conv => whnf
   refine ⟨_, a7, rfl, ?_⟩
   refine hT _ _ ?_
   iterate 2 (refine aops_step fun T S hT hS => ?_; (conv => whnf); refine hT _ _ ?_)
   refine aops_step fun T S hT hS => ?_
   conv => whnf
   conv in (takeAt _ _ _) => change takeAt TG 0 42; rw [t42]
   conv => whnf
   refine hT _ _ ?_
   iterate 2 (refine aops_step fun T S hT hS => ?_; (conv => whnf); refine hT _ _ ?_)
   refine aops_step fun T S hT hS => ?_
   conv => whnf
   conv in (takeAt _ _ _) => change takeAt ON 32 1; rw [n32]
   conv => whnf
   refine hT _ _ ?_
   refine aops_step fun T S hT hS => ?_
   conv => whnf
   refine hT _ _ ?_
   refine aops_step fun T S hT hS => ?_
   conv => whnf
   conv in (takeAt _ _ _) => change takeAt ON 0 32; rw [n0]
   conv => whnf
   refine hT _ _ ?_
   refine aops_step fun T S hT hS => ?_
   conv => whnf
   refine hT _ _ ?_
   refine aops_step fun T S hT hS => ?_
   conv => whnf
   conv in (takeAt _ _ _) => change takeAt ON 33 4; rw [n33]
   conv => whnf
   refine hT _ _ ?_
   refine aops_step fun T S hT hS => ?_
   conv => whnf
   refine hT _ _ ?_
   refine aops_step fun T S hT hS => ?_
   conv => whnf
   conv in (takeAt _ _ _) => change takeAt ON 37 4; rw [n37]
   conv => whnf
   refine hT _ _ ?_
   refine aops_step fun T S hT hS => ?_
   conv => whnf
   refine ⟨fun v _ => v = ptV qx qy qb, fun c B hB hL => by
     show HC PG B f_commit_Amount [.agg (extL c TG), .agg (extL c (amtC false w 0 0 false))] _
     rw [tex c]
     exact cM B (fun r o h => hB r o (.inl h)), ⟨_, B0, rfl, rfl⟩, ?_⟩
   rintro v N' _ rfl N1 _
   refine hT _ _ ?_
   refine aops_step fun T S hT hS => ?_
   conv => whnf
   refine ⟨fun v _ => v = ptV px py pb, fun c B hB hL => by
     show HC PG B f_ref07_Asset [.agg (extL c (u8s D)), W 0] _
     rw [hex c]
     exact cR B (fun r o h => hB r o (.inl h)), ⟨_, B0, rfl, rfl⟩, ?_⟩
   rintro v N' _ rfl N1 _
   refine hT _ _ ?_
   refine aops_step fun T S hT hS => ?_
   conv => whnf
   refine ⟨_, rv, rfl, ?_⟩
   refine hT _ _ ?_
   refine aops_step fun T S hT hS => ?_
   conv => whnf
   rw [w9]
   refine hT _ _ ?_
   refine aops_step fun T S hT hS => ?_
   conv => whnf
   refine hT _ _ ?_
   refine aops_end ?_
   refine hK2 _ _ ?_
   clear hK2 hR2
   conv => whnf
   refine hK _ _ ?_
   clear hK hR
   refine swp_cut fun K hK hR _ => ?_
   refine aops_step fun T S hT hS => ?_
   conv => whnf
   conv in (takeAt _ _ _) => change takeAt TG 0 42; rw [t42]
   conv => whnf
   refine hT _ _ ?_
   refine aops_step fun T S hT hS => ?_
   conv => whnf
   refine ⟨_, c1, tcl, ?_⟩
   refine hT _ _ ?_
   refine aops_step fun T S hT hS => ?_
   conv => whnf
   refine hT _ _ ?_
   cases rt with
   | false =>
    simp only [Bool.false_and] at cO
    iterate 2 (refine aops_step fun T S hT hS => ?_; (conv => whnf); refine hS ?_)
    iterate 2 (refine aops_step fun T S hT hS => ?_; (conv => whnf); refine hT _ _ ?_)
    refine aops_end ?_
    refine hK _ _ ?_
    clear hK hR
    refine swp_cut fun K hK hR _ => ?_
    refine aops_step fun T S hT hS => ?_
    conv => whnf
    conv in (takeAt _ _ _) => change takeAt TG 0 42; rw [t42]
    conv => whnf
    refine hT _ _ ?_
    refine aops_step fun T S hT hS => ?_
    conv => whnf
    refine hT _ _ ?_
    refine aops_step fun T S hT hS => ?_
    conv => whnf
    conv in (takeAt _ _ _) => change takeAt ON 0 41; rw [oall]
    conv => whnf
    refine hT _ _ ?_
    refine aops_step fun T S hT hS => ?_
    conv => whnf
    refine ⟨fun v _ => v = .one (.bool false), fun c B hB hL => by
      show HC PG B f_commit_Opens [.agg (extL c TG), .agg (extL c (amtC false w 0 0 false)), .agg (extL c ON)] _
      rw [tex c, oex c]
      exact cO B (fun r o h => hB r o (.inl h)), ⟨_, B0, rfl, rfl⟩, ?_⟩
    rintro v N' _ rfl N1 _
    refine hT _ _ ?_
    iterate 3 (refine aops_step fun T S hT hS => ?_; (conv => whnf); refine hT _ _ ?_)
    refine aops_end ?_
    refine hK _ _ ?_
    conv => whnf
    intro c N2 _ _
    rfl
   | true =>
    simp only [Bool.true_and] at cO
    refine aops_step fun T S hT hS => ?_
    conv => whnf
    refine hT _ _ ?_
    refine aops_step fun T S hT hS => ?_
    conv => whnf
    refine ⟨_, c2, rfl, ?_⟩
    refine hT _ _ ?_
    iterate 2 (refine aops_step fun T S hT hS => ?_; (conv => whnf); refine hT _ _ ?_)
    refine aops_end ?_
    refine hK _ _ ?_
    clear hK hR
    refine swp_cut fun K hK hR _ => ?_
    refine aops_step fun T S hT hS => ?_
    conv => whnf
    conv in (takeAt _ _ _) => change takeAt TG 0 42; rw [t42]
    conv => whnf
    refine hT _ _ ?_
    refine aops_step fun T S hT hS => ?_
    conv => whnf
    refine hT _ _ ?_
    refine aops_step fun T S hT hS => ?_
    conv => whnf
    conv in (takeAt _ _ _) => change takeAt ON 0 41; rw [oall]
    conv => whnf
    refine hT _ _ ?_
    refine aops_step fun T S hT hS => ?_
    conv => whnf
    refine ⟨fun v _ => v = .one (.bool ra), fun c B hB hL => by
      show HC PG B f_commit_Opens [.agg (extL c TG), .agg (extL c (amtC false w 0 0 false)), .agg (extL c ON)] _
      rw [tex c, oex c]
      exact cO B (fun r o h => hB r o (.inl h)), ⟨_, B0, rfl, rfl⟩, ?_⟩
    rintro v N' _ rfl N1 _
    refine hT _ _ ?_
    refine aops_step fun T S hT hS => ?_
    conv => whnf
    refine hT _ _ ?_
    refine aops_step fun T S hT hS => ?_
    conv => whnf
    rw [wr2]
    refine hT _ _ ?_
    refine aops_step fun T S hT hS => ?_
    conv => whnf
    refine hT _ _ ?_
    refine aops_end ?_
    refine hK _ _ ?_
    conv => whnf
    intro c N2 _ _
    rfl
  | true =>
   obtain ⟨qx, qy, qb, iqx, iqy, eq, _, _⟩ := pt_nm _ (valP_on (v := w) (k := r) on1)
   have v1 := value_fn (b := false) hw igx igy hr
   rw [tu, eq] at v1
   have cT := fun (B : Base) (hB : Base.le A B) => tagC_hc (x := 0) (y := 0) hD hD8 false false B (ERead_le hB hTb)
   simp only [eg] at cT
   have cM := fun (B : Base) (hB : Base.le A B) => amtC_hc (x' := qx) (y' := qy) (x := 0) (y := 0) hD hD8 false false hu0 true qb igx igy eg B (ERead_le hB hTb)
   have rv := rvalue_fn (b := pb) hw ipx ipy hr
   rw [tp, eq] at rv
   rw [← tp] at eq
   have cO := fun (B : Base) (hB : Base.le A B) => opens_hc (A := B) (l := false) (D := D) (x := 0) (y := 0) (b := false) (l2 := true) (w2 := 0) (x2 := qx) (y2 := qy) (b2 := qb) hD hz0 hz0 iqx iqy hD hw hz0 hr (fun C hC => (fun C hC => aC C (ERead_le hC hTb)) C (fun r o h => hC r o (hB r o h))) ipx ipy iqx iqy eq
   have eO : ∀ rt ra et ew er, opensB rt ra false true et (D == D) (decide ((0 : Int) % nn = 0)) (eqPt qx qy qb qx qy qb) ew er = (rt && ra) := fun _ _ _ _ _ => opensB_ok (fun h => by cases h) (fun _ => ⟨hDD, hn0⟩) (fun _ => eqPt_refl _ _ _) (fun h => by cases h)
   simp only [eO] at cO
   have c1 := rightTag_fn (l := false) (D := D) (b := false) (x := 0) (y := 0) hD hz0 hz0
   have c2 := rightAmount_fn (l := true) (w := 0) (b := qb) (x := qx) (y := qy) iqx iqy
   generalize rightT false D 0 0 false = rt at *
   generalize rightA true 0 qx qy qb = ra at *
   have w9 := same9 qx qy qb
   have wr2 : (ra == ra) = true := beq_self_eq_true _
   have tcl := tag_cls false D 0 0 false
   have tex : ∀ c, extL c (tagC false D 0 0 false) = tagC false D 0 0 false := fun c => extL_closed c (tag_cl _ _ _ _ _)
   have oall := op_all hD w 0 r
   have oex : ∀ c, extL c (opC D w 0 r) = opC D w 0 r := fun c => extL_closed c (op_cl D w 0 r)
   generalize hO : opC D w s r = OP at *
   generalize hO1 : opC D w 0 r = OQ at *
   generalize hG : tagC false D 0 0 false = TG at *
   refine swp_cut fun K hK hR _ => ?_
   conv => whnf
   refine hK _ _ ?_
   clear hK hR
   refine swp_cut fun K hK hR _ => ?_
   refine aops_step fun T S hT hS => ?_
   conv => whnf
   refine hT _ _ ?_
   refine aops_step fun T S hT hS => ?_
   conv => whnf
   conv in (takeAt _ _ _) => change takeAt OP 0 32; rw [o0]
   conv => whnf
   refine hT _ _ ?_
   refine aops_step fun T S hT hS => ?_
   conv => whnf
   rw [pval_b1 (v := .agg (u8s D)) (l := TG) rfl rfl hbuild]
   conv => whnf
   refine hT _ _ ?_
   refine aops_step fun T S hT hS => ?_
   conv => whnf
   refine hT _ _ ?_
   refine aops_step fun T S hT hS => ?_
   conv => whnf
   conv in (Nat.beq _ _) => change Nat.beq 42 TG.length; rw [tgl]
   conv => whnf
   conv in (putAt _ _ _) => change putAt (tagC false zD 0 0 false) 0 TG; rw [tgp]
   conv => whnf
   refine hT _ _ ?_
   refine aops_end ?_
   refine hK _ _ ?_
   clear hK hR
   refine swp_cut fun K hK hR _ => ?_
   refine swp_cut fun K2 hK2 hR2 _ => ?_
   refine aops_step fun T S hT hS => ?_
   conv => whnf
   refine hT _ _ ?_
   refine aops_end ?_
   refine hK2 _ _ ?_
   clear hK2 hR2
   conv => whnf
   conv in (putAt _ _ _) => change putAt OP 33 (words 0); rw [pz]
   conv => whnf
   refine hK _ _ ?_
   clear hK hR
   refine swp_cut fun K hK hR _ => ?_
   refine aops_step fun T S hT hS => ?_
   conv => whnf
   refine hT _ _ ?_
   refine aops_step fun T S hT hS => ?_
   conv => whnf
   conv in (takeAt _ _ _) => change takeAt OQ 32 1; rw [q32]
   conv => whnf
   refine hT _ _ ?_
   iterate 3 (refine aops_step fun T S hT hS => ?_; (conv => whnf); refine hT _ _ ?_)
   refine aops_end ?_
   refine hK _ _ ?_
   clear hK hR
   refine swp_cut fun K hK hR _ => ?_
   refine swp_cut fun K2 hK2 hR2 _ => ?_
   refine aops_step fun T S hT hS => ?_
   conv => whnf
   refine hT _ _ ?_
   refine aops_end ?_
   refine hK2 _ _ ?_
   clear hK2 hR2
   conv => whnf
   conv in (takeAt _ _ _) => change takeAt OQ 32 1; rw [q32]
   conv => whnf
   conv in (takeAt _ _ _) => change takeAt TG 0 42; rw [t42]
   conv => whnf
   conv in (takeAt _ _ _) => change takeAt OQ 37 4; rw [q37]
   conv => whnf
   refine ⟨fun v _ => v = ptV gx gy false, fun c B hB hL => by
     show HC PG B f_commit_Tag [.agg (extL c TG)] _
     rw [tex c]
     exact cT B (fun r o h => hB r o (.inl h)), ⟨_, B0, rfl, rfl⟩, ?_⟩
   rintro v N' _ rfl N1 _
   conv => whnf
   refine ⟨_, v1, rfl, ?_⟩
   conv => whnf
   refine hK _ _ ?_
   clear hK hR
   refine swp_cut fun K hK hR _ => ?_
   refine swp_cut fun K2 hK2 hR2 _ => ?_
   refine aops_step fun T S hT hS => ?_
   conv => whnf
   refine ⟨_, a7, rfl, ?_⟩
   refine hT _ _ ?_
   iterate 2 (refine aops_step fun T S hT hS => ?_; (conv => whnf); refine hT _ _ ?_)
   refine aops_step fun T S hT hS => ?_
   conv => whnf
   conv in (takeAt _ _ _) => change takeAt TG 0 42; rw [t42]
   conv => whnf
   refine hT _ _ ?_
   iterate 2 (refine aops_step fun T S hT hS => ?_; (conv => whnf); refine hT _ _ ?_)
   refine aops_step fun T S hT hS => ?_
   conv => whnf
   conv in (takeAt _ _ _) => change takeAt OQ 32 1; rw [q32]
   conv => whnf
   refine hT _ _ ?_
   refine aops_step fun T S hT hS => ?_
   conv => whnf
   refine hT _ _ ?_
   refine aops_step fun T S hT hS => ?_
   conv => whnf
   conv in (takeAt _ _ _) => change takeAt OQ 0 32; rw [q0]
   conv => whnf
   refine hT _ _ ?_
   refine aops_step fun T S hT hS => ?_
   conv => whnf
   refine hT _ _ ?_
   refine aops_step fun T S hT hS => ?_
   conv => whnf
   conv in (takeAt _ _ _) => change takeAt OQ 33 4; rw [q33]
   conv => whnf
   refine hT _ _ ?_
   refine aops_step fun T S hT hS => ?_
   conv => whnf
   refine hT _ _ ?_
   refine aops_step fun T S hT hS => ?_
   conv => whnf
   conv in (takeAt _ _ _) => change takeAt OQ 37 4; rw [q37]
   conv => whnf
   refine hT _ _ ?_
   refine aops_step fun T S hT hS => ?_
   conv => whnf
   refine ⟨fun v _ => v = ptV qx qy qb, fun c B hB hL => by
     show HC PG B f_commit_Amount [.agg (extL c TG), .agg (extL c (amtC true 0 qx qy qb))] _
     rw [tex c]
     exact cM B (fun r o h => hB r o (.inl h)), ⟨_, B0, rfl, rfl⟩, ?_⟩
   rintro v N' _ rfl N1 _
   refine hT _ _ ?_
   refine aops_step fun T S hT hS => ?_
   conv => whnf
   refine ⟨fun v _ => v = ptV px py pb, fun c B hB hL => by
     show HC PG B f_ref07_Asset [.agg (extL c (u8s D)), W 0] _
     rw [hex c]
     exact cR B (fun r o h => hB r o (.inl h)), ⟨_, B0, rfl, rfl⟩, ?_⟩
   rintro v N' _ rfl N1 _
   refine hT _ _ ?_
   refine aops_step fun T S hT hS => ?_
   conv => whnf
   refine ⟨_, rv, rfl, ?_⟩
   refine hT _ _ ?_
   refine aops_step fun T S hT hS => ?_
   conv => whnf
   rw [w9]
   refine hT _ _ ?_
   refine aops_step fun T S hT hS => ?_
   conv => whnf
   refine hT _ _ ?_
   refine aops_end ?_
   refine hK2 _ _ ?_
   clear hK2 hR2
   conv => whnf
   refine hK _ _ ?_
   clear hK hR
   refine swp_cut fun K hK hR _ => ?_
   refine aops_step fun T S hT hS => ?_
   conv => whnf
   conv in (takeAt _ _ _) => change takeAt TG 0 42; rw [t42]
   conv => whnf
   refine hT _ _ ?_
   refine aops_step fun T S hT hS => ?_
   conv => whnf
   refine ⟨_, c1, tcl, ?_⟩
   refine hT _ _ ?_
   refine aops_step fun T S hT hS => ?_
   conv => whnf
   refine hT _ _ ?_
   cases rt with
   | false =>
    simp only [Bool.false_and] at cO
    iterate 2 (refine aops_step fun T S hT hS => ?_; (conv => whnf); refine hS ?_)
    iterate 2 (refine aops_step fun T S hT hS => ?_; (conv => whnf); refine hT _ _ ?_)
    refine aops_end ?_
    refine hK _ _ ?_
    clear hK hR
    refine swp_cut fun K hK hR _ => ?_
    refine aops_step fun T S hT hS => ?_
    conv => whnf
    conv in (takeAt _ _ _) => change takeAt TG 0 42; rw [t42]
    conv => whnf
    refine hT _ _ ?_
    refine aops_step fun T S hT hS => ?_
    conv => whnf
    refine hT _ _ ?_
    refine aops_step fun T S hT hS => ?_
    conv => whnf
    conv in (takeAt _ _ _) => change takeAt OQ 0 41; rw [oall]
    conv => whnf
    refine hT _ _ ?_
    refine aops_step fun T S hT hS => ?_
    conv => whnf
    refine ⟨fun v _ => v = .one (.bool false), fun c B hB hL => by
      show HC PG B f_commit_Opens [.agg (extL c TG), .agg (extL c (amtC true 0 qx qy qb)), .agg (extL c OQ)] _
      rw [tex c, oex c]
      exact cO B (fun r o h => hB r o (.inl h)), ⟨_, B0, rfl, rfl⟩, ?_⟩
    rintro v N' _ rfl N1 _
    refine hT _ _ ?_
    iterate 3 (refine aops_step fun T S hT hS => ?_; (conv => whnf); refine hT _ _ ?_)
    refine aops_end ?_
    refine hK _ _ ?_
    conv => whnf
    intro c N2 _ _
    rfl
   | true =>
    simp only [Bool.true_and] at cO
    refine aops_step fun T S hT hS => ?_
    conv => whnf
    refine hT _ _ ?_
    refine aops_step fun T S hT hS => ?_
    conv => whnf
    refine ⟨_, c2, rfl, ?_⟩
    refine hT _ _ ?_
    iterate 2 (refine aops_step fun T S hT hS => ?_; (conv => whnf); refine hT _ _ ?_)
    refine aops_end ?_
    refine hK _ _ ?_
    clear hK hR
    refine swp_cut fun K hK hR _ => ?_
    refine aops_step fun T S hT hS => ?_
    conv => whnf
    conv in (takeAt _ _ _) => change takeAt TG 0 42; rw [t42]
    conv => whnf
    refine hT _ _ ?_
    refine aops_step fun T S hT hS => ?_
    conv => whnf
    refine hT _ _ ?_
    refine aops_step fun T S hT hS => ?_
    conv => whnf
    conv in (takeAt _ _ _) => change takeAt OQ 0 41; rw [oall]
    conv => whnf
    refine hT _ _ ?_
    refine aops_step fun T S hT hS => ?_
    conv => whnf
    refine ⟨fun v _ => v = .one (.bool ra), fun c B hB hL => by
      show HC PG B f_commit_Opens [.agg (extL c TG), .agg (extL c (amtC true 0 qx qy qb)), .agg (extL c OQ)] _
      rw [tex c, oex c]
      exact cO B (fun r o h => hB r o (.inl h)), ⟨_, B0, rfl, rfl⟩, ?_⟩
    rintro v N' _ rfl N1 _
    refine hT _ _ ?_
    refine aops_step fun T S hT hS => ?_
    conv => whnf
    refine hT _ _ ?_
    refine aops_step fun T S hT hS => ?_
    conv => whnf
    rw [wr2]
    refine hT _ _ ?_
    refine aops_step fun T S hT hS => ?_
    conv => whnf
    refine hT _ _ ?_
    refine aops_end ?_
    refine hK _ _ ?_
    conv => whnf
    intro c N2 _ _
    rfl
 | true =>
  obtain ⟨gx, gy, igx, igy, eg, P, eP, on1, aC, aR⟩ := assetG_hc hD hD8 hs
  obtain ⟨px, py, pb, ipx, ipy, ep, tp, _⟩ := pt_nm P on1
  rw [ep] at aC aR
  have tu : tkn px py pb = P := tp
  have cC := fun (B : Base) (hB : Base.le A B) => aC B (ERead_le hB hTb)
  have cR := fun (B : Base) (hB : Base.le A B) => aR B (ERead_le hB hTr)
  cases ab with
  | false =>
   obtain ⟨qx, qy, qb, iqx, iqy, eq, _, _⟩ := pt_nm _ (valP_on (v := w) (k := 0) on1)
   have cM := fun (B : Base) (hB : Base.le A B) => amtC_hc (x' := 0) (y' := 0) (x := px) (y := py) hzD hzD8 true pb hw false false ipx ipy rfl B (ERead_le hB hTb)
   simp only [tu] at cM
   rw [valP_z on1] at eq
   simp only [eq] at cM
   rw [← valP_z on1] at eq
   have pz2 := op_z2 hD w s r
   have n0 := opC_0 hD w s 0
   have n32 := opC_32 hD w s 0
   have n33 := opC_33 hD w s 0
   have n37 := opC_37 hD w s 0
   have rv := rvalue_fn (b := pb) hw ipx ipy hz0
   rw [tp, eq] at rv
   rw [← tp] at eq
   have cO := fun (B : Base) (hB : Base.le A B) => opens_hc (A := B) (l := true) (D := zD) (x := px) (y := py) (b := pb) (l2 := false) (w2 := w) (x2 := 0) (y2 := 0) (b2 := false) hzD ipx ipy hz0 hz0 hD hw hs hz0 (fun C hC => cC C (fun r o h => hC r o (hB r o h))) ipx ipy iqx iqy eq
   have eO : ∀ rt ra ed es ev, opensB rt ra true false (eqPt px py pb px py pb) ed es ev (w == w) (decide ((0 : Int) % nn = 0)) = (rt && ra) := fun _ _ _ _ _ => opensB_ok (fun _ => eqPt_refl _ _ _) (fun h => by cases h) (fun h => by cases h) (fun _ => ⟨beq_self_eq_true w, hn0⟩)
   simp only [eO] at cO
   have c1 := rightTag_fn (l := true) (D := zD) (b := pb) (x := px) (y := py) hzD ipx ipy
   have c2 := rightAmount_fn (l := false) (w := w) (b := false) (x := 0) (y := 0) hz0 hz0
   generalize rightT true zD px py pb = rt at *
   generalize rightA false w 0 0 false = ra at *
   have w9 := same9 qx qy qb
   have wr2 : (ra == ra) = true := beq_self_eq_true _
   have tcl := tag_cls true zD px py pb
   have tex : ∀ c, extL c (tagC true zD px py pb) = tagC true zD px py pb := fun c => extL_closed c (tag_cl _ _ _ _ _)
   have oall := op_all hD w s 0
   have oex : ∀ c, extL c (opC D w s 0) = opC D w s 0 := fun c => extL_closed c (op_cl D w s 0)
   have pall : putAt (tagC false D 0 0 false) 0 (tagC true zD px py pb) = some (tagC true zD px py pb) := putAt_all (by simp [tagC, ptC, words, hD, hzD])
   generalize hO : opC D w s r = OP at *
   generalize hO2 : opC D w s 0 = ON at *
   generalize hG : tagC false D 0 0 false = TG at *
   refine swp_cut fun K hK hR _ => ?_
   conv => whnf
   refine hK _ _ ?_
   clear hK hR
   refine swp_cut fun K hK hR _ => ?_
   refine aops_step fun T S hT hS => ?_
   conv => whnf
   refine hT _ _ ?_
   refine aops_step fun T S hT hS => ?_
   conv => whnf
   conv in (takeAt _ _ _) => change takeAt OP 0 32; rw [o0]
   conv => whnf
   refine hT _ _ ?_
   refine aops_step fun T S hT hS => ?_
   conv => whnf
   rw [pval_b1 (v := .agg (u8s D)) (l := TG) rfl rfl hbuild]
   conv => whnf
   refine hT _ _ ?_
   refine aops_step fun T S hT hS => ?_
   conv => whnf
   refine hT _ _ ?_
   refine aops_step fun T S hT hS => ?_
   conv => whnf
   conv in (Nat.beq _ _) => change Nat.beq 42 TG.length; rw [tgl]
   conv => whnf
   conv in (putAt _ _ _) => change putAt (tagC false zD 0 0 false) 0 TG; rw [tgp]
   conv => whnf
   refine hT _ _ ?_
   refine aops_end ?_
   refine hK _ _ ?_
   clear hK hR
   refine swp_cut fun K hK hR _ => ?_
   refine swp_cut fun K2 hK2 hR2 _ => ?_
   refine aops_step fun T S hT hS => ?_
   conv => whnf
   refine hT _ _ ?_
   refine aops_end ?_
   refine hK2 _ _ ?_
   clear hK2 hR2
   conv => whnf
   conv in (takeAt _ _ _) => change takeAt OP 0 32; rw [o0]
   conv => whnf
   conv in (takeAt _ _ _) => change takeAt OP 33 4; rw [o33]
   conv => whnf
   refine ⟨fun v _ => v = ptV px py pb, fun c B hB hL => by
     show HC PG B f_commit_Asset [.agg (extL c (u8s D)), W s] _
     rw [hex c]
     exact cC B (fun r o h => hB r o (.inl h)), ⟨_, B0, rfl, rfl⟩, ?_⟩
   rintro v N' _ rfl N1 _
   conv => whnf
   conv in (putAt _ _ _) => change putAt TG 0 (tagC true zD px py pb); rw [pall]
   conv => whnf
   refine hK _ _ ?_
   clear hK hR
   refine swp_cut fun K hK hR _ => ?_
   refine aops_step fun T S hT hS => ?_
   conv => whnf
   refine hT _ _ ?_
   refine aops_step fun T S hT hS => ?_
   conv => whnf
   conv in (takeAt _ _ _) => change takeAt OP 32 1; rw [o32]
   conv => whnf
   refine hT _ _ ?_
   iterate 3 (refine aops_step fun T S hT hS => ?_; (conv => whnf); refine hT _ _ ?_)
   refine aops_end ?_
   refine hK _ _ ?_
   clear hK hR
   refine swp_cut fun K hK hR _ => ?_
   refine swp_cut fun K2 hK2 hR2 _ => ?_
   refine aops_step fun T S hT hS => ?_
   conv => whnf
   refine hT _ _ ?_
   refine aops_end ?_
   refine hK2 _ _ ?_
   clear hK2 hR2
   conv => whnf
   conv in (putAt _ _ _) => change putAt OP 37 (words 0); rw [pz2]
   conv => whnf
   refine hK _ _ ?_
   clear hK hR
   refine swp_cut fun K hK hR _ => ?_
   refine swp_cut fun K2 hK2 hR2 _ => ?_
   refine aops_step fun T S hT hS => ?_
   conv => whnf
   refine ⟨_, a7, rfl, ?_⟩
   refine hT _ _ ?_
   iterate 2 (refine aops_step fun T S hT hS => ?_; (conv => whnf); refine hT _ _ ?_)
   refine aops_step fun T S hT hS => ?_
   conv => whnf
   refine hT _ _ ?_
   iterate 2 (refine aops_step fun T S hT hS => ?_; (conv => whnf); refine hT _ _ ?_)
   refine aops_step fun T S hT hS => ?_
   conv => whnf
   conv in (takeAt _ _ _) => change takeAt ON 32 1; rw [n32]
   conv => whnf
   refine hT _ _ ?_
   refine aops_step fun T S hT hS => ?_
   conv => whnf
   refine hT _ _ ?_
   refine aops_step fun T S hT hS => ?_
   conv => whnf
   conv in (takeAt _ _ _) => change takeAt ON 0 32; rw [n0]
   conv => whnf
   refine hT _ _ ?_
   refine aops_step fun T S hT hS => ?_
   conv => whnf
   refine hT _ _ ?_
   refine aops_step fun T S hT hS => ?_
   conv => whnf
   conv in (takeAt _ _ _) => change takeAt ON 33 4; rw [n33]
   conv => whnf
   refine hT _ _ ?_
   refine aops_step fun T S hT hS => ?_
   conv => whnf
   refine hT _ _ ?_
   refine aops_step fun T S hT hS => ?_
   conv => whnf
   conv in (takeAt _ _ _) => change takeAt ON 37 4; rw [n37]
   conv => whnf
   refine hT _ _ ?_
   refine aops_step fun T S hT hS => ?_
   conv => whnf
   refine ⟨fun v _ => v = ptV qx qy qb, fun c B hB hL => by
     show HC PG B f_commit_Amount [.agg (extL c (tagC true zD px py pb)), .agg (extL c (amtC false w 0 0 false))] _
     rw [tex c]
     exact cM B (fun r o h => hB r o (.inl h)), ⟨_, B0, rfl, rfl⟩, ?_⟩
   rintro v N' _ rfl N1 _
   refine hT _ _ ?_
   refine aops_step fun T S hT hS => ?_
   conv => whnf
   refine ⟨fun v _ => v = ptV px py pb, fun c B hB hL => by
     show HC PG B f_ref07_Asset [.agg (extL c (u8s D)), W s] _
     rw [hex c]
     exact cR B (fun r o h => hB r o (.inl h)), ⟨_, B0, rfl, rfl⟩, ?_⟩
   rintro v N' _ rfl N1 _
   refine hT _ _ ?_
   refine aops_step fun T S hT hS => ?_
   conv => whnf
   refine ⟨_, rv, rfl, ?_⟩
   refine hT _ _ ?_
   refine aops_step fun T S hT hS => ?_
   conv => whnf
   rw [w9]
   refine hT _ _ ?_
   refine aops_step fun T S hT hS => ?_
   conv => whnf
   refine hT _ _ ?_
   refine aops_end ?_
   refine hK2 _ _ ?_
   clear hK2 hR2
   conv => whnf
   refine hK _ _ ?_
   clear hK hR
   refine swp_cut fun K hK hR _ => ?_
   refine aops_step fun T S hT hS => ?_
   conv => whnf
   refine hT _ _ ?_
   refine aops_step fun T S hT hS => ?_
   conv => whnf
   refine ⟨_, c1, tcl, ?_⟩
   refine hT _ _ ?_
   refine aops_step fun T S hT hS => ?_
   conv => whnf
   refine hT _ _ ?_
   cases rt with
   | false =>
    simp only [Bool.false_and] at cO
    iterate 2 (refine aops_step fun T S hT hS => ?_; (conv => whnf); refine hS ?_)
    iterate 2 (refine aops_step fun T S hT hS => ?_; (conv => whnf); refine hT _ _ ?_)
    refine aops_end ?_
    refine hK _ _ ?_
    clear hK hR
    refine swp_cut fun K hK hR _ => ?_
    refine aops_step fun T S hT hS => ?_
    conv => whnf
    refine hT _ _ ?_
    refine aops_step fun T S hT hS => ?_
    conv => whnf
    refine hT _ _ ?_
    refine aops_step fun T S hT hS => ?_
    conv => whnf
    conv in (takeAt _ _ _) => change takeAt ON 0 41; rw [oall]
    conv => whnf
    refine hT _ _ ?_
    refine aops_step fun T S hT hS => ?_
    conv => whnf
    refine ⟨fun v _ => v = .one (.bool false), fun c B hB hL => by
      show HC PG B f_commit_Opens [.agg (extL c (tagC true zD px py pb)), .agg (extL c (amtC false w 0 0 false)), .agg (extL c ON)] _
      rw [tex c, oex c]
      exact cO B (fun r o h => hB r o (.inl h)), ⟨_, B0, rfl, rfl⟩, ?_⟩
    rintro v N' _ rfl N1 _
    refine hT _ _ ?_
    iterate 3 (refine aops_step fun T S hT hS => ?_; (conv => whnf); refine hT _ _ ?_)
    refine aops_end ?_
    refine hK _ _ ?_
    conv => whnf
    intro c N2 _ _
    rfl
   | true =>
    simp only [Bool.true_and] at cO
    refine aops_step fun T S hT hS => ?_
    conv => whnf
    refine hT _ _ ?_
    refine aops_step fun T S hT hS => ?_
    conv => whnf
    refine ⟨_, c2, rfl, ?_⟩
    refine hT _ _ ?_
    iterate 2 (refine aops_step fun T S hT hS => ?_; (conv => whnf); refine hT _ _ ?_)
    refine aops_end ?_
    refine hK _ _ ?_
    clear hK hR
    refine swp_cut fun K hK hR _ => ?_
    refine aops_step fun T S hT hS => ?_
    conv => whnf
    refine hT _ _ ?_
    refine aops_step fun T S hT hS => ?_
    conv => whnf
    refine hT _ _ ?_
    refine aops_step fun T S hT hS => ?_
    conv => whnf
    conv in (takeAt _ _ _) => change takeAt ON 0 41; rw [oall]
    conv => whnf
    refine hT _ _ ?_
    refine aops_step fun T S hT hS => ?_
    conv => whnf
    refine ⟨fun v _ => v = .one (.bool ra), fun c B hB hL => by
      show HC PG B f_commit_Opens [.agg (extL c (tagC true zD px py pb)), .agg (extL c (amtC false w 0 0 false)), .agg (extL c ON)] _
      rw [tex c, oex c]
      exact cO B (fun r o h => hB r o (.inl h)), ⟨_, B0, rfl, rfl⟩, ?_⟩
    rintro v N' _ rfl N1 _
    refine hT _ _ ?_
    refine aops_step fun T S hT hS => ?_
    conv => whnf
    refine hT _ _ ?_
    refine aops_step fun T S hT hS => ?_
    conv => whnf
    rw [wr2]
    refine hT _ _ ?_
    refine aops_step fun T S hT hS => ?_
    conv => whnf
    refine hT _ _ ?_
    refine aops_end ?_
    refine hK _ _ ?_
    conv => whnf
    intro c N2 _ _
    rfl
  | true =>
   obtain ⟨qx, qy, qb, iqx, iqy, eq, _, _⟩ := pt_nm _ (valP_on (v := w) (k := r) on1)
   have v1 := value_fn (b := pb) hw ipx ipy hr
   rw [tu, eq] at v1
   have cT := fun (B : Base) (hB : Base.le A B) => tagC_hc (x := px) (y := py) hzD hzD8 true pb B (ERead_le hB hTb)
   have cM := fun (B : Base) (hB : Base.le A B) => amtC_hc (x' := qx) (y' := qy) (x := px) (y := py) hzD hzD8 true pb hu0 true qb ipx ipy rfl B (ERead_le hB hTb)
   have rv := rvalue_fn (b := pb) hw ipx ipy hr
   rw [tp, eq] at rv
   rw [← tp] at eq
   have cO := fun (B : Base) (hB : Base.le A B) => opens_hc (A := B) (l := true) (D := zD) (x := px) (y := py) (b := pb) (l2 := true) (w2 := 0) (x2 := qx) (y2 := qy) (b2 := qb) hzD ipx ipy iqx iqy hD hw hs hr (fun C hC => cC C (fun r o h => hC r o (hB r o h))) ipx ipy iqx iqy eq
   have eO : ∀ rt ra ed es ew er, opensB rt ra true true (eqPt px py pb px py pb) ed es (eqPt qx qy qb qx qy qb) ew er = (rt && ra) := fun _ _ _ _ _ _ => opensB_ok (fun _ => eqPt_refl _ _ _) (fun h => by cases h) (fun _ => eqPt_refl _ _ _) (fun h => by cases h)
   simp only [eO] at cO
   have c1 := rightTag_fn (l := true) (D := zD) (b := pb) (x := px) (y := py) hzD ipx ipy
   have c2 := rightAmount_fn (l := true) (w := 0) (b := qb) (x := qx) (y := qy) iqx iqy
   generalize rightT true zD px py pb = rt at *
   generalize rightA true 0 qx qy qb = ra at *
   have w9 := same9 qx qy qb
   have wr2 : (ra == ra) = true := beq_self_eq_true _
   have tcl := tag_cls true zD px py pb
   have tex : ∀ c, extL c (tagC true zD px py pb) = tagC true zD px py pb := fun c => extL_closed c (tag_cl _ _ _ _ _)
   have oall := op_all hD w s r
   have oex : ∀ c, extL c (opC D w s r) = opC D w s r := fun c => extL_closed c (op_cl D w s r)
   have pall : putAt (tagC false D 0 0 false) 0 (tagC true zD px py pb) = some (tagC true zD px py pb) := putAt_all (by simp [tagC, ptC, words, hD, hzD])
   generalize hO : opC D w s r = OP at *
   generalize hG : tagC false D 0 0 false = TG at *
   refine swp_cut fun K hK hR _ => ?_
   conv => whnf
   refine hK _ _ ?_
   clear hK hR
   refine swp_cut fun K hK hR _ => ?_
   refine aops_step fun T S hT hS => ?_
   conv => whnf
   refine hT _ _ ?_
   refine aops_step fun T S hT hS => ?_
   conv => whnf
   conv in (takeAt _ _ _) => change takeAt OP 0 32; rw [o0]
   conv => whnf
   refine hT _ _ ?_
   refine aops_step fun T S hT hS => ?_
   conv => whnf
   rw [pval_b1 (v := .agg (u8s D)) (l := TG) rfl rfl hbuild]
   conv => whnf
   refine hT _ _ ?_
   refine aops_step fun T S hT hS => ?_
   conv => whnf
   refine hT _ _ ?_
   refine aops_step fun T S hT hS => ?_
   conv => whnf
   conv in (Nat.beq _ _) => change Nat.beq 42 TG.length; rw [tgl]
   conv => whnf
   conv in (putAt _ _ _) => change putAt (tagC false zD 0 0 false) 0 TG; rw [tgp]
   conv => whnf
   refine hT _ _ ?_
   refine aops_end ?_
   refine hK _ _ ?_
   clear hK hR
   refine swp_cut fun K hK hR _ => ?_
   refine swp_cut fun K2 hK2 hR2 _ => ?_
   refine aops_step fun T S hT hS => ?_
   conv => whnf
   refine hT _ _ ?_
   refine aops_end ?_
   refine hK2 _ _ ?_
   clear hK2 hR2
   conv => whnf
   conv in (takeAt _ _ _) => change takeAt OP 0 32; rw [o0]
   conv => whnf
   conv in (takeAt _ _ _) => change takeAt OP 33 4; rw [o33]
   conv => whnf
   refine ⟨fun v _ => v = ptV px py pb, fun c B hB hL => by
     show HC PG B f_commit_Asset [.agg (extL c (u8s D)), W s] _
     rw [hex c]
     exact cC B (fun r o h => hB r o (.inl h)), ⟨_, B0, rfl, rfl⟩, ?_⟩
   rintro v N' _ rfl N1 _
   conv => whnf
   conv in (putAt _ _ _) => change putAt TG 0 (tagC true zD px py pb); rw [pall]
   conv => whnf
   refine hK _ _ ?_
   clear hK hR
   refine swp_cut fun K hK hR _ => ?_
   refine aops_step fun T S hT hS => ?_
   conv => whnf
   refine hT _ _ ?_
   refine aops_step fun T S hT hS => ?_
   conv => whnf
   conv in (takeAt _ _ _) => change takeAt OP 32 1; rw [o32]
   conv => whnf
   refine hT _ _ ?_
   iterate 3 (refine aops_step fun T S hT hS => ?_; (conv => whnf); refine hT _ _ ?_)
   refine aops_end ?_
   refine hK _ _ ?_
   clear hK hR
   refine swp_cut fun K hK hR _ => ?_
   refine swp_cut fun K2 hK2 hR2 _ => ?_
   refine aops_step fun T S hT hS => ?_
   conv => whnf
   refine hT _ _ ?_
   refine aops_end ?_
   refine hK2 _ _ ?_
   clear hK2 hR2
   conv => whnf
   conv in (takeAt _ _ _) => change takeAt OP 32 1; rw [o32]
   conv => whnf
   conv in (takeAt _ _ _) => change takeAt OP 37 4; rw [o37]
   conv => whnf
   refine ⟨fun v _ => v = ptV px py pb, fun c B hB hL => by
     show HC PG B f_commit_Tag [.agg (extL c (tagC true zD px py pb))] _
     rw [tex c]
     exact cT B (fun r o h => hB r o (.inl h)), ⟨_, B0, rfl, rfl⟩, ?_⟩
   rintro v N' _ rfl N1 _
   conv => whnf
   refine ⟨_, v1, rfl, ?_⟩
   conv => whnf
   refine hK _ _ ?_
   clear hK hR
   refine swp_cut fun K hK hR _ => ?_
   refine swp_cut fun K2 hK2 hR2 _ => ?_
   refine aops_step fun T S hT hS => ?_
   conv => whnf
   refine ⟨_, a7, rfl, ?_⟩
   refine hT _ _ ?_
   iterate 2 (refine aops_step fun T S hT hS => ?_; (conv => whnf); refine hT _ _ ?_)
   refine aops_step fun T S hT hS => ?_
   conv => whnf
   refine hT _ _ ?_
   iterate 2 (refine aops_step fun T S hT hS => ?_; (conv => whnf); refine hT _ _ ?_)
   refine aops_step fun T S hT hS => ?_
   conv => whnf
   conv in (takeAt _ _ _) => change takeAt OP 32 1; rw [o32]
   conv => whnf
   refine hT _ _ ?_
   refine aops_step fun T S hT hS => ?_
   conv => whnf
   refine hT _ _ ?_
   refine aops_step fun T S hT hS => ?_
   conv => whnf
   conv in (takeAt _ _ _) => change takeAt OP 0 32; rw [o0]
   conv => whnf
   refine hT _ _ ?_
   refine aops_step fun T S hT hS => ?_
   conv => whnf
   refine hT _ _ ?_
   refine aops_step fun T S hT hS => ?_
   conv => whnf
   conv in (takeAt _ _ _) => change takeAt OP 33 4; rw [o33]
   conv => whnf
   refine hT _ _ ?_
   refine aops_step fun T S hT hS => ?_
   conv => whnf
   refine hT _ _ ?_
   refine aops_step fun T S hT hS => ?_
   conv => whnf
   conv in (takeAt _ _ _) => change takeAt OP 37 4; rw [o37]
   conv => whnf
   refine hT _ _ ?_
   refine aops_step fun T S hT hS => ?_
   conv => whnf
   refine ⟨fun v _ => v = ptV qx qy qb, fun c B hB hL => by
     show HC PG B f_commit_Amount [.agg (extL c (tagC true zD px py pb)), .agg (extL c (amtC true 0 qx qy qb))] _
     rw [tex c]
     exact cM B (fun r o h => hB r o (.inl h)), ⟨_, B0, rfl, rfl⟩, ?_⟩
   rintro v N' _ rfl N1 _
   refine hT _ _ ?_
   refine aops_step fun T S hT hS => ?_
   conv => whnf
   refine ⟨fun v _ => v = ptV px py pb, fun c B hB hL => by
     show HC PG B f_ref07_Asset [.agg (extL c (u8s D)), W s] _
     rw [hex c]
     exact cR B (fun r o h => hB r o (.inl h)), ⟨_, B0, rfl, rfl⟩, ?_⟩
   rintro v N' _ rfl N1 _
   refine hT _ _ ?_
   refine aops_step fun T S hT hS => ?_
   conv => whnf
   refine ⟨_, rv, rfl, ?_⟩
   refine hT _ _ ?_
   refine aops_step fun T S hT hS => ?_
   conv => whnf
   rw [w9]
   refine hT _ _ ?_
   refine aops_step fun T S hT hS => ?_
   conv => whnf
   refine hT _ _ ?_
   refine aops_end ?_
   refine hK2 _ _ ?_
   clear hK2 hR2
   conv => whnf
   refine hK _ _ ?_
   clear hK hR
   refine swp_cut fun K hK hR _ => ?_
   refine aops_step fun T S hT hS => ?_
   conv => whnf
   refine hT _ _ ?_
   refine aops_step fun T S hT hS => ?_
   conv => whnf
   refine ⟨_, c1, tcl, ?_⟩
   refine hT _ _ ?_
   refine aops_step fun T S hT hS => ?_
   conv => whnf
   refine hT _ _ ?_
   cases rt with
   | false =>
    simp only [Bool.false_and] at cO
    iterate 2 (refine aops_step fun T S hT hS => ?_; (conv => whnf); refine hS ?_)
    iterate 2 (refine aops_step fun T S hT hS => ?_; (conv => whnf); refine hT _ _ ?_)
    refine aops_end ?_
    refine hK _ _ ?_
    clear hK hR
    refine swp_cut fun K hK hR _ => ?_
    refine aops_step fun T S hT hS => ?_
    conv => whnf
    refine hT _ _ ?_
    refine aops_step fun T S hT hS => ?_
    conv => whnf
    refine hT _ _ ?_
    refine aops_step fun T S hT hS => ?_
    conv => whnf
    conv in (takeAt _ _ _) => change takeAt OP 0 41; rw [oall]
    conv => whnf
    refine hT _ _ ?_
    refine aops_step fun T S hT hS => ?_
    conv => whnf
    refine ⟨fun v _ => v = .one (.bool false), fun c B hB hL => by
      show HC PG B f_commit_Opens [.agg (extL c (tagC true zD px py pb)), .agg (extL c (amtC true 0 qx qy qb)), .agg (extL c OP)] _
      rw [tex c, oex c]
      exact cO B (fun r o h => hB r o (.inl h)), ⟨_, B0, rfl, rfl⟩, ?_⟩
    rintro v N' _ rfl N1 _
    refine hT _ _ ?_
    iterate 3 (refine aops_step fun T S hT hS => ?_; (conv => whnf); refine hT _ _ ?_)
    refine aops_end ?_
    refine hK _ _ ?_
    conv => whnf
    intro c N2 _ _
    rfl
   | true =>
    simp only [Bool.true_and] at cO
    refine aops_step fun T S hT hS => ?_
    conv => whnf
    refine hT _ _ ?_
    refine aops_step fun T S hT hS => ?_
    conv => whnf
    refine ⟨_, c2, rfl, ?_⟩
    refine hT _ _ ?_
    iterate 2 (refine aops_step fun T S hT hS => ?_; (conv => whnf); refine hT _ _ ?_)
    refine aops_end ?_
    refine hK _ _ ?_
    clear hK hR
    refine swp_cut fun K hK hR _ => ?_
    refine aops_step fun T S hT hS => ?_
    conv => whnf
    refine hT _ _ ?_
    refine aops_step fun T S hT hS => ?_
    conv => whnf
    refine hT _ _ ?_
    refine aops_step fun T S hT hS => ?_
    conv => whnf
    conv in (takeAt _ _ _) => change takeAt OP 0 41; rw [oall]
    conv => whnf
    refine hT _ _ ?_
    refine aops_step fun T S hT hS => ?_
    conv => whnf
    refine ⟨fun v _ => v = .one (.bool ra), fun c B hB hL => by
      show HC PG B f_commit_Opens [.agg (extL c (tagC true zD px py pb)), .agg (extL c (amtC true 0 qx qy qb)), .agg (extL c OP)] _
      rw [tex c, oex c]
      exact cO B (fun r o h => hB r o (.inl h)), ⟨_, B0, rfl, rfl⟩, ?_⟩
    rintro v N' _ rfl N1 _
    refine hT _ _ ?_
    refine aops_step fun T S hT hS => ?_
    conv => whnf
    refine hT _ _ ?_
    refine aops_step fun T S hT hS => ?_
    conv => whnf
    rw [wr2]
    refine hT _ _ ?_
    refine aops_step fun T S hT hS => ?_
    conv => whnf
    refine hT _ _ ?_
    refine aops_end ?_
    refine hK _ _ ?_
    conv => whnf
    intro c N2 _ _
    rfl

end Go.Hv
