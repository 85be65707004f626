import Derived.Test.YtaochmekimkegaaDoorCm4
import Derived.Test.YtaochmekimkegaaDoorCm3
namespace Go.Hv
open Go.Ev Go.Ec

theorem pval_neqD {T : Tys} {t t2 : TypeId} {x y : Operand} {e : Env} {Z D E : List Int} {ag : Bool} {sz : Nat} {k : TK} (hx : opv e x = some (.agg (u8s D))) (hy : opv e y = some (.agg (u8s E))) (hl : lk T t = some ⟨ag, sz, u8s Z, true, k⟩)
  {r : Bool} (h : eqCells (u8s Z) (u8s D) (u8s E) = some r) : pvalH T (.binOp .neq t x y t2) e = some (.one (.bool (!r))) := by
 have h1 : pval T (.binOp .neq t x y t2) e = some (.one (.bool (!r))) := by
  simp only [pval, hx, hy, bop, hl, h]
 unfold pvalH
 rw [h1]

def opensB (rt ra l l2 et ed es ev ew er : Bool) : Bool :=
 match rt with
 | false => false
 | true => match ra with
  | false => false
  | true => match (match l with | true => et | false => ed && es) with
   | false => false
   | true => match l2 with
    | true => ev
    | false => ew && er

theorem op_cl (D : List Int) (w s r : Int) : closedL 0 (opC D w s r) = true := closedL_iff.2 fun z hz => by
 unfold opC at hz
 rcases List.mem_append.1 hz with h | h
 ·exact closedL_iff.1 (ints_cl .u8 D 0) z h
 ·exact closedL_iff.1 (rfl : closedL 0 ([u w] ++ (words s ++ words r)) = true) z h

set_option maxHeartbeats 2000000 in
set_option maxRecDepth 100000 in
theorem opens_hc {A : Base} {l b : Bool} {D : List Int} {x y : Int} {l2 b2 : Bool} {w2 x2 y2 : Int} {E : List Int} {w s r : Int} {px py qx qy : Int} {pb qb : Bool} (hD : D.length = 32) (hx : InW x) (hy : InW y) (hx2 : InW x2) (hy2 : InW y2) (hE : E.length = 32) (hw : InU w) (hs : InW s) (hr : InW r)
  (cA : ∀ B, Base.le A B → HC PG B f_commit_Asset [.agg (u8s E), W s] fun v _ => v = ptV px py pb) (hpx : InW px) (hpy : InW py) (hqx : InW qx) (hqy : InW qy) (hq : ptOf (valP w (tkn px py pb) r) = ptV qx qy qb) :
  HC PG A f_commit_Opens [.agg (tagC l D x y b), .agg (amtC l2 w2 x2 y2 b2), .agg (opC E w s r)] fun v _ => v = .one (.bool (opensB (rightT l D x y b) (rightA l2 w2 x2 y2 b2) l l2 (eqPt x y b px py pb) (D == E) (decide (s % nn = 0)) (eqPt x2 y2 b2 qx qy qb) (w2 == w) (decide (r % nn = 0)))) := by
 refine hc_start (fun _ => none) h_commit_Opens rfl (by kernel_rfl) (by kernel_rfl) (closedTs_iff.2 fun v hv => by
  simp only [List.mem_cons, List.not_mem_nil, or_false] at hv
  rcases hv with rfl | rfl | rfl
  ·exact tag_cl l D x y b
  ·rfl
  ·exact op_cl E w s r) ?_
 have hex : ∀ c, extL c (u8s E) = u8s E := fun c => extL_closed c (ints_cl _ _ 0)
 have t0 := tag_0 l D x y b
 have t1 := tag_1 hD l x y b
 have t33 := tag_33 hD l x y b
 have t42 := tag_all hD l x y b
 have tcl := tag_cls l D x y b
 have acl : closedTs 0 [.agg (amtC l2 w2 x2 y2 b2)] = true := rfl
 have a0 := amt_0 l2 w2 x2 y2 b2
 have a1 := amt_1 l2 w2 x2 y2 b2
 have a2 := amt_2 l2 w2 x2 y2 b2
 have a11 := amt_all l2 w2 x2 y2 b2
 have o0 := opC_0 hE w s r
 have o32 := opC_32 hE w s r
 have o33 := opC_33 hE w s r
 have o37 := opC_37 hE w s r
 have c1 := rightTag_fn (l := l) (b := b) (D := D) hD hx hy
 have c2 := rightAmount_fn (l := l2) (b := b2) (w := w2) hx2 hy2
 have c3 := scNorm_fn hs
 have c4 := scNorm_fn hr
 have c5 := value_fn (b := pb) hw hpx hpy hr
 rw [hq] at c5
 have ins : InW (s % nn) := by unfold nn; exact ⟨by omega, by omega⟩
 have inr : InW (r % nn) := by unfold nn; exact ⟨by omega, by omega⟩
 have wt := peq hx hy hpx hpy ((b == pb) && true)
 have wv := peq hx2 hy2 hqx hqy ((b2 == qb) && true)
 have ws := weq0 ins
 have wr_ := weq0 inr
 have wd := eqD (Z := zD) (E := E) (D := D) hD hE
 obtain ⟨ew, hew⟩ : ∃ e, (w2 == w) = e := ⟨_, rfl⟩
 rw [hew]
 replace wt := wt.trans (show _ = eqPt x y b px py pb from rfl)
 replace wv := wv.trans (show _ = eqPt x2 y2 b2 qx qy qb from rfl)
 generalize eqPt x y b px py pb = et at *
 generalize eqPt x2 y2 b2 qx qy qb = ev at *
 generalize (D == E) = ed at *
 generalize decide (s % nn = 0) = es at *
 generalize decide (r % nn = 0) = er at *
 generalize rightT l D x y b = rt at *
 generalize rightA l2 w2 x2 y2 b2 = ra at *
 generalize hO : tagC l D x y b = TG at *
 generalize hO2 : amtC l2 w2 x2 y2 b2 = AM at *
 generalize hO3 : opC E w s r = OP at *
 refine swp_cut fun K hK hR _ => ?_
 conv => whnf
 refine hK _ _ ?_
 clear hK hR
 refine swp_cut fun K hK hR _ => ?_
 refine swp_cut fun K2 hK2 hR2 _ => ?_
 refine aops_step fun T S hT hS => ?_
 conv => whnf
 conv in (takeAt _ _ _) => change takeAt TG 0 42; rw [t42]
 conv => whnf
 refine hT _ _ ?_
 refine aops_step fun T S hT hS => ?_
 conv => whnf
 refine ⟨_, c1, tcl, ?_⟩
 refine hT _ _ ?_
 cases rt with
 | false =>
  iterate 2 (refine aops_step fun T S hT hS => ?_; (conv => whnf); refine hT _ _ ?_)
  iterate 3 (refine aops_step fun T S hT hS => ?_; (conv => whnf); refine hS ?_)
  refine aops_step fun T S hT hS => ?_
  conv => whnf
  refine hT _ _ ?_
  refine aops_end ?_
  refine hK2 _ _ ?_
  conv => whnf
  refine hR _ _ ?_
  conv => whnf
  intro c N8 _ _
  rfl
 | true =>
  iterate 2 (refine aops_step fun T S hT hS => ?_; (conv => whnf); refine hT _ _ ?_)
  refine aops_step fun T S hT hS => ?_
  conv => whnf
  conv in (takeAt _ _ _) => change takeAt AM 0 11; rw [a11]
  conv => whnf
  refine hT _ _ ?_
  refine aops_step fun T S hT hS => ?_
  conv => whnf
  refine ⟨_, c2, acl, ?_⟩
  refine hT _ _ ?_
  cases ra with
  | false =>
   iterate 2 (refine aops_step fun T S hT hS => ?_; (conv => whnf); refine hT _ _ ?_)
   refine aops_end ?_
   refine hK2 _ _ ?_
   conv => whnf
   refine hR _ _ ?_
   conv => whnf
   intro c N8 _ _
   rfl
  | true =>
   iterate 2 (refine aops_step fun T S hT hS => ?_; (conv => whnf); refine hT _ _ ?_)
   refine aops_end ?_
   refine hK2 _ _ ?_
   conv => whnf
   refine hK _ _ ?_
   clear hK hR hK2 hR2
   refine swp_cut fun K hK hR _ => ?_
   refine aops_step fun T S hT hS => ?_
   conv => whnf
   refine hT _ _ ?_
   refine aops_step fun T S hT hS => ?_
   conv => whnf
   conv in (takeAt _ _ _) => change takeAt OP 0 32; rw [o0]
   conv => whnf
   refine hT _ _ ?_
   refine aops_step fun T S hT hS => ?_
   conv => whnf
   refine hT _ _ ?_
   refine aops_step fun T S hT hS => ?_
   conv => whnf
   conv in (takeAt _ _ _) => change takeAt OP 33 4; rw [o33]
   conv => whnf
   refine hT _ _ ?_
   refine aops_step fun T S hT hS => ?_
   conv => whnf
   refine ⟨fun v _ => v = ptV px py pb, fun c B hB hL => by
     show HC PG B f_commit_Asset [.agg (extL c (u8s E)), W s] _
     rw [hex c]
     exact cA B (fun r o h => hB r o (.inl h)), ⟨_, B0, rfl, rfl⟩, ?_⟩
   rintro v N' _ rfl N1 _
   refine hT _ _ ?_
   iterate 2 (refine aops_step fun T S hT hS => ?_; (conv => whnf); refine hT _ _ ?_)
   refine aops_end ?_
   refine hK _ _ ?_
   clear hK hR
   refine swp_cut fun K hK hR _ => ?_
   refine swp_cut fun K2 hK2 hR2 _ => ?_
   refine aops_step fun T S hT hS => ?_
   conv => whnf
   refine hT _ _ ?_
   refine aops_step fun T S hT hS => ?_
   conv => whnf
   conv in (takeAt _ _ _) => change takeAt TG 0 1; rw [t0]
   conv => whnf
   refine hT _ _ ?_
   refine aops_step fun T S hT hS => ?_
   conv => whnf
   refine hT _ _ ?_
   cases l with
   | false =>
    iterate 4 (refine aops_step fun T S hT hS => ?_; (conv => whnf); refine hS ?_)
    iterate 3 (refine aops_step fun T S hT hS => ?_; (conv => whnf); refine hT _ _ ?_)
    refine aops_step fun T S hT hS => ?_
    conv => whnf
    conv in (takeAt _ _ _) => change takeAt TG 0 1; rw [t0]
    conv => whnf
    refine hT _ _ ?_
    iterate 3 (refine aops_step fun T S hT hS => ?_; (conv => whnf); refine hT _ _ ?_)
    refine aops_step fun T S hT hS => ?_
    conv => whnf
    conv in (takeAt _ _ _) => change takeAt TG 1 32; rw [t1]
    conv => whnf
    refine hT _ _ ?_
    refine aops_step fun T S hT hS => ?_
    conv => whnf
    refine hT _ _ ?_
    refine aops_step fun T S hT hS => ?_
    conv => whnf
    conv in (takeAt _ _ _) => change takeAt OP 0 32; rw [o0]
    conv => whnf
    refine hT _ _ ?_
    refine aops_step fun T S hT hS => ?_
    conv => whnf
    rw [pval_neqD (Z := zD) (D := D) (E := E) rfl rfl rfl wd]
    conv => whnf
    refine hT _ _ ?_
    cases ed with
    | false =>
     refine aops_step fun T S hT hS => ?_
     conv => whnf
     refine hT _ _ ?_
     iterate 5 (refine aops_step fun T S hT hS => ?_; (conv => whnf); refine hS ?_)
     iterate 3 (refine aops_step fun T S hT hS => ?_; (conv => whnf); refine hT _ _ ?_)
     refine aops_end ?_
     refine hK2 _ _ ?_
     conv => whnf
     refine hR _ _ ?_
     conv => whnf
     intro c N8 _ _
     rfl
    | true =>
     iterate 2 (refine aops_step fun T S hT hS => ?_; (conv => whnf); refine hT _ _ ?_)
     refine aops_step fun T S hT hS => ?_
     conv => whnf
     conv in (takeAt _ _ _) => change takeAt OP 33 4; rw [o33]
     conv => whnf
     refine hT _ _ ?_
     refine aops_step fun T S hT hS => ?_
     conv => whnf
     refine ⟨_, c3, rfl, ?_⟩
     refine hT _ _ ?_
     refine aops_step fun T S hT hS => ?_
     conv => whnf
     refine hT _ _ ?_
     refine aops_step fun T S hT hS => ?_
     conv => whnf
     rw [ws]
     refine hT _ _ ?_
     cases es with
     | false =>
      iterate 3 (refine aops_step fun T S hT hS => ?_; (conv => whnf); refine hT _ _ ?_)
      refine aops_end ?_
      refine hK2 _ _ ?_
      conv => whnf
      refine hR _ _ ?_
      conv => whnf
      intro c N8 _ _
      rfl
     | true =>
      iterate 3 (refine aops_step fun T S hT hS => ?_; (conv => whnf); refine hT _ _ ?_)
      refine aops_end ?_
      refine hK2 _ _ ?_
      conv => whnf
      refine hK _ _ ?_
      clear hK hR hK2 hR2
      refine swp_cut fun K hK hR _ => ?_
      refine swp_cut fun K2 hK2 hR2 _ => ?_
      refine aops_step fun T S hT hS => ?_
      conv => whnf
      refine hT _ _ ?_
      refine aops_step fun T S hT hS => ?_
      conv => whnf
      conv in (takeAt _ _ _) => change takeAt AM 0 1; rw [a0]
      conv => whnf
      refine hT _ _ ?_
      refine aops_end ?_
      refine hK2 _ _ ?_
      conv => whnf
      cases l2 with
      | false =>
       refine hK _ _ ?_
       clear hK hR hK2 hR2
       refine swp_cut fun K hK hR _ => ?_
       refine aops_step fun T S hT hS => ?_
       conv => whnf
       refine hT _ _ ?_
       refine aops_step fun T S hT hS => ?_
       conv => whnf
       conv in (takeAt _ _ _) => change takeAt AM 1 1; rw [a1]
       conv => whnf
       refine hT _ _ ?_
       refine aops_step fun T S hT hS => ?_
       conv => whnf
       refine hT _ _ ?_
       refine aops_step fun T S hT hS => ?_
       conv => whnf
       conv in (takeAt _ _ _) => change takeAt OP 32 1; rw [o32]
       conv => whnf
       refine hT _ _ ?_
       refine aops_step fun T S hT hS => ?_
       conv => whnf
       rw [hew]
       refine hT _ _ ?_
       cases ew with
       | false =>
        refine aops_step fun T S hT hS => ?_
        conv => whnf
        refine hT _ _ ?_
        iterate 5 (refine aops_step fun T S hT hS => ?_; (conv => whnf); refine hS ?_)
        iterate 2 (refine aops_step fun T S hT hS => ?_; (conv => whnf); refine hT _ _ ?_)
        refine aops_end ?_
        refine hK _ _ ?_
        conv => whnf
        intro c N8 _ _
        rfl
       | true =>
        iterate 2 (refine aops_step fun T S hT hS => ?_; (conv => whnf); refine hT _ _ ?_)
        refine aops_step fun T S hT hS => ?_
        conv => whnf
        conv in (takeAt _ _ _) => change takeAt OP 37 4; rw [o37]
        conv => whnf
        refine hT _ _ ?_
        refine aops_step fun T S hT hS => ?_
        conv => whnf
        refine ⟨_, c4, rfl, ?_⟩
        refine hT _ _ ?_
        refine aops_step fun T S hT hS => ?_
        conv => whnf
        refine hT _ _ ?_
        refine aops_step fun T S hT hS => ?_
        conv => whnf
        rw [wr_]
        refine hT _ _ ?_
        iterate 2 (refine aops_step fun T S hT hS => ?_; (conv => whnf); refine hT _ _ ?_)
        refine aops_end ?_
        refine hK _ _ ?_
        conv => whnf
        intro c N8 _ _
        rfl
      | true =>
       refine swp_cut fun K3 hK3 hR3 _ => ?_
       refine aops_step fun T S hT hS => ?_
       conv => whnf
       refine hT _ _ ?_
       refine aops_step fun T S hT hS => ?_
       conv => whnf
       conv in (takeAt _ _ _) => change takeAt AM 2 9; rw [a2]
       conv => whnf
       refine hT _ _ ?_
       refine aops_step fun T S hT hS => ?_
       conv => whnf
       refine hT _ _ ?_
       refine aops_step fun T S hT hS => ?_
       conv => whnf
       conv in (takeAt _ _ _) => change takeAt OP 32 1; rw [o32]
       conv => whnf
       refine hT _ _ ?_
       iterate 2 (refine aops_step fun T S hT hS => ?_; (conv => whnf); refine hT _ _ ?_)
       refine aops_step fun T S hT hS => ?_
       conv => whnf
       conv in (takeAt _ _ _) => change takeAt OP 37 4; rw [o37]
       conv => whnf
       refine hT _ _ ?_
       refine aops_step fun T S hT hS => ?_
       conv => whnf
       refine ⟨_, c5, rfl, ?_⟩
       refine hT _ _ ?_
       refine aops_step fun T S hT hS => ?_
       conv => whnf
       rw [wv]
       refine hT _ _ ?_
       refine aops_step fun T S hT hS => ?_
       conv => whnf
       refine hT _ _ ?_
       refine aops_end ?_
       refine hK3 _ _ ?_
       conv => whnf
       refine hR _ _ ?_
       conv => whnf
       intro c N8 _ _
       rfl
   | true =>
    refine aops_step fun T S hT hS => ?_
    conv => whnf
    refine hT _ _ ?_
    refine aops_step fun T S hT hS => ?_
    conv => whnf
    conv in (takeAt _ _ _) => change takeAt TG 33 9; rw [t33]
    conv => whnf
    refine hT _ _ ?_
    refine aops_step fun T S hT hS => ?_
    conv => whnf
    refine hT _ _ ?_
    refine aops_step fun T S hT hS => ?_
    conv => whnf
    rw [wt]
    refine hT _ _ ?_
    cases et with
    | false =>
     iterate 2 (refine aops_step fun T S hT hS => ?_; (conv => whnf); refine hT _ _ ?_)
     iterate 17 (refine aops_step fun T S hT hS => ?_; (conv => whnf); refine hS ?_)
     refine aops_step fun T S hT hS => ?_
     conv => whnf
     refine hT _ _ ?_
     refine aops_end ?_
     refine hK2 _ _ ?_
     conv => whnf
     refine hR _ _ ?_
     conv => whnf
     intro c N8 _ _
     rfl
    | true =>
     iterate 3 (refine aops_step fun T S hT hS => ?_; (conv => whnf); refine hT _ _ ?_)
     refine aops_step fun T S hT hS => ?_
     conv => whnf
     conv in (takeAt _ _ _) => change takeAt TG 0 1; rw [t0]
     conv => whnf
     refine hT _ _ ?_
     iterate 2 (refine aops_step fun T S hT hS => ?_; (conv => whnf); refine hT _ _ ?_)
     iterate 12 (refine aops_step fun T S hT hS => ?_; (conv => whnf); refine hS ?_)
     iterate 2 (refine aops_step fun T S hT hS => ?_; (conv => whnf); refine hT _ _ ?_)
     refine aops_end ?_
     refine hK2 _ _ ?_
     conv => whnf
     refine hK _ _ ?_
     clear hK hR hK2 hR2
     refine swp_cut fun K hK hR _ => ?_
     refine swp_cut fun K2 hK2 hR2 _ => ?_
     refine aops_step fun T S hT hS => ?_
     conv => whnf
     refine hT _ _ ?_
     refine aops_step fun T S hT hS => ?_
     conv => whnf
     conv in (takeAt _ _ _) => change takeAt AM 0 1; rw [a0]
     conv => whnf
     refine hT _ _ ?_
     refine aops_end ?_
     refine hK2 _ _ ?_
     conv => whnf
     cases l2 with
     | false =>
      refine hK _ _ ?_
      clear hK hR hK2 hR2
      refine swp_cut fun K hK hR _ => ?_
      refine aops_step fun T S hT hS => ?_
      conv => whnf
      refine hT _ _ ?_
      refine aops_step fun T S hT hS => ?_
      conv => whnf
      conv in (takeAt _ _ _) => change takeAt AM 1 1; rw [a1]
      conv => whnf
      refine hT _ _ ?_
      refine aops_step fun T S hT hS => ?_
      conv => whnf
      refine hT _ _ ?_
      refine aops_step fun T S hT hS => ?_
      conv => whnf
      conv in (takeAt _ _ _) => change takeAt OP 32 1; rw [o32]
      conv => whnf
      refine hT _ _ ?_
      refine aops_step fun T S hT hS => ?_
      conv => whnf
      rw [hew]
      refine hT _ _ ?_
      cases ew with
      | false =>
       refine aops_step fun T S hT hS => ?_
       conv => whnf
       refine hT _ _ ?_
       iterate 5 (refine aops_step fun T S hT hS => ?_; (conv => whnf); refine hS ?_)
       iterate 2 (refine aops_step fun T S hT hS => ?_; (conv => whnf); refine hT _ _ ?_)
       refine aops_end ?_
       refine hK _ _ ?_
       conv => whnf
       intro c N8 _ _
       rfl
      | true =>
       iterate 2 (refine aops_step fun T S hT hS => ?_; (conv => whnf); refine hT _ _ ?_)
       refine aops_step fun T S hT hS => ?_
       conv => whnf
       conv in (takeAt _ _ _) => change takeAt OP 37 4; rw [o37]
       conv => whnf
       refine hT _ _ ?_
       refine aops_step fun T S hT hS => ?_
       conv => whnf
       refine ⟨_, c4, rfl, ?_⟩
       refine hT _ _ ?_
       refine aops_step fun T S hT hS => ?_
       conv => whnf
       refine hT _ _ ?_
       refine aops_step fun T S hT hS => ?_
       conv => whnf
       rw [wr_]
       refine hT _ _ ?_
       iterate 2 (refine aops_step fun T S hT hS => ?_; (conv => whnf); refine hT _ _ ?_)
       refine aops_end ?_
       refine hK _ _ ?_
       conv => whnf
       intro c N8 _ _
       rfl
     | true =>
      refine swp_cut fun K3 hK3 hR3 _ => ?_
      refine aops_step fun T S hT hS => ?_
      conv => whnf
      refine hT _ _ ?_
      refine aops_step fun T S hT hS => ?_
      conv => whnf
      conv in (takeAt _ _ _) => change takeAt AM 2 9; rw [a2]
      conv => whnf
      refine hT _ _ ?_
      refine aops_step fun T S hT hS => ?_
      conv => whnf
      refine hT _ _ ?_
      refine aops_step fun T S hT hS => ?_
      conv => whnf
      conv in (takeAt _ _ _) => change takeAt OP 32 1; rw [o32]
      conv => whnf
      refine hT _ _ ?_
      iterate 2 (refine aops_step fun T S hT hS => ?_; (conv => whnf); refine hT _ _ ?_)
      refine aops_step fun T S hT hS => ?_
      conv => whnf
      conv in (takeAt _ _ _) => change takeAt OP 37 4; rw [o37]
      conv => whnf
      refine hT _ _ ?_
      refine aops_step fun T S hT hS => ?_
      conv => whnf
      refine ⟨_, c5, rfl, ?_⟩
      refine hT _ _ ?_
      refine aops_step fun T S hT hS => ?_
      conv => whnf
      rw [wv]
      refine hT _ _ ?_
      refine aops_step fun T S hT hS => ?_
      conv => whnf
      refine hT _ _ ?_
      refine aops_end ?_
      refine hK3 _ _ ?_
      conv => whnf
      refine hR _ _ ?_
      conv => whnf
      intro c N8 _ _
      rfl

end Go.Hv
