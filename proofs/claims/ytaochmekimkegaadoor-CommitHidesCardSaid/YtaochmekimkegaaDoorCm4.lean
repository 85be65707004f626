import Derived.Test.YtaochmekimkegaaDoorCm1
import Derived.Test.YtaochmekimkegaaDoorGn1
import Derived.Test.YtaochmekimkegaaDoorOpC
namespace Go.Hv
open Go.Ev Go.Ec

theorem eqD : ∀ {Z D E : List Int}, D.length = Z.length → E.length = Z.length → eqCells (u8s Z) (u8s D) (u8s E) = some (D == E)
 | [], [], [], _, _ => rfl
 | _ :: Z, d :: D, e :: E, h1, h2 => by
  have ih := eqD (Z := Z) (D := D) (E := E) (by simpa using h1) (by simpa using h2)
  show (match eqCells (u8s Z) (u8s D) (u8s E) with | some r => some ((d == e) && r) | none => none) = some (d :: D == e :: E)
  rw [ih]
  rfl

theorem pval_eqD {T : Tys} {t t2 : TypeId} {x y : Operand} {e : Env} {Z D E : List Int} {ag : Bool} {sz : Nat} {k : TK} (hx : opv e x = some (.agg (u8s D))) (hy : opv e y = some (.agg (u8s E))) (hl : lk T t = some ⟨ag, sz, u8s Z, true, k⟩)
  {r : Bool} (h : eqCells (u8s Z) (u8s D) (u8s E) = some r) : pvalH T (.binOp .eql t x y t2) e = some (.one (.bool r)) := by
 have h1 : pval T (.binOp .eql t x y t2) e = some (.one (.bool r)) := by
  simp only [pval, hx, hy, bop, hl, h]
 unfold pvalH
 rw [h1]

def isZ (x y : Int) (b : Bool) : Bool := decide (x = 0) && (decide (y = 0) && ((b == false) && true))

theorem point_fn {x y : Int} {b : Bool} (hx : InW x) (hy : InW y) : Ev.Fn PG f_commit_point [ptV x y b] (.one (.bool (rightP x y b && !b))) := by
 refine fn_startH (fun _ => none) h_commit_point rfl (by kernel_rfl) (fun _ => by kernel_rfl) rfl rfl fun A => ?_
 have c1 := cRight_fn (b := b) hx hy
 have c2 := zero_fn
 obtain ⟨r, hr⟩ : ∃ r, rightP x y b = r := ⟨_, rfl⟩
 have hc : r = true → (!(decide (x = 0) && (decide (y = 0) && ((b == true) && true)))) = !b := fun h => by
  subst h
  cases b with
  | false => simp
  | true =>
   have : (decide (x = 0) && decide (y = 0)) = true := hr
   simp only [Bool.and_eq_true, decide_eq_true_eq] at this
   simp [this.1, this.2]
 rw [hr] at c1 ⊢
 have w := peq hx hy (⟨by omega, by omega⟩ : InW 0) (⟨by omega, by omega⟩ : InW 0) ((b == true) && true)
 refine swp_cut fun K hK hR _ => ?_
 conv => whnf
 refine hK _ _ ?_
 clear hK hR
 refine swp_cut fun K hK hR _ => ?_
 cases r with
 | false =>
  refine aops_step fun T S hT hS => ?_
  conv => whnf
  refine hT _ _ ?_
  refine aops_step fun T S hT hS => ?_
  conv => whnf
  refine ⟨_, c1, rfl, ?_⟩
  refine hT _ _ ?_
  refine aops_step fun T S hT hS => ?_
  conv => whnf
  refine hT _ _ ?_
  refine aops_step fun T S hT hS => ?_
  conv => whnf
  refine hS ?_
  refine aops_step fun T S hT hS => ?_
  conv => whnf
  refine hS ?_
  refine aops_step fun T S hT hS => ?_
  conv => whnf
  refine hS ?_
  iterate 2 (refine aops_step fun T S hT hS => ?_; (conv => whnf); refine hT _ _ ?_)
  refine aops_end ?_
  refine hK _ _ ?_
  conv => whnf
  intro c N2 _ _
  rfl
 | true =>
  have hc := hc rfl
  refine aops_step fun T S hT hS => ?_
  conv => whnf
  refine hT _ _ ?_
  refine aops_step fun T S hT hS => ?_
  conv => whnf
  refine ⟨_, c1, rfl, ?_⟩
  refine hT _ _ ?_
  iterate 2 (refine aops_step fun T S hT hS => ?_; (conv => whnf); refine hT _ _ ?_)
  refine aops_step fun T S hT hS => ?_
  conv => whnf
  refine ⟨_, c2, rfl, ?_⟩
  refine hT _ _ ?_
  refine aops_step fun T S hT hS => ?_
  conv => whnf
  rw [w]
  rw [hc]
  refine hT _ _ ?_
  iterate 2 (refine aops_step fun T S hT hS => ?_; (conv => whnf); refine hT _ _ ?_)
  refine aops_end ?_
  refine hK _ _ ?_
  conv => whnf
  intro c N2 _ _
  rfl

def zD : List Int := List.replicate 32 0

def rightT (l : Bool) (D : List Int) (x y : Int) (b : Bool) : Bool :=
 match l with
 | false => isZ x y b
 | true => (D == zD) && (rightP x y b && !b)

theorem tag_0 (l : Bool) (D : List Int) (x y : Int) (b : Bool) : takeAt (tagC l D x y b) 0 1 = some [.bool l] := takeAt_app [] [.bool l] _
theorem tag_1 {D : List Int} (hD : D.length = 32) (l : Bool) (x y : Int) (b : Bool) : takeAt (tagC l D x y b) 1 32 = some (u8s D) := by
 have := takeAt_app [.bool l] (u8s D) (ptC x y b)
 rw [List.length_map, hD] at this
 exact this
theorem tag_33 {D : List Int} (hD : D.length = 32) (l : Bool) (x y : Int) (b : Bool) : takeAt (tagC l D x y b) 33 9 = some (ptC x y b) := by
 have := takeAt_app ([.bool l] ++ u8s D) (ptC x y b) []
 rw [List.length_append, List.length_map, hD, List.append_nil, List.append_assoc] at this
 exact this
theorem tag_41 {D : List Int} (hD : D.length = 32) (l : Bool) (x y : Int) (b : Bool) : takeAt (tagC l D x y b) 41 1 = some [.bool b] := by
 have := takeAt_app ([.bool l] ++ (u8s D ++ (words x ++ words y))) [.bool b] []
 rw [List.length_append, List.length_append, List.length_map, hD, List.append_nil, List.append_assoc, List.append_assoc, List.append_assoc] at this
 exact this
theorem tag_all {D : List Int} (hD : D.length = 32) (l : Bool) (x y : Int) (b : Bool) : takeAt (tagC l D x y b) 0 42 = some (tagC l D x y b) := by
 have := takeAt_app [] (tagC l D x y b) []
 rw [List.append_nil, show (tagC l D x y b).length = 42 by simp [tagC, ptC, words, hD]] at this
 exact this
theorem tag_cl (l : Bool) (D : List Int) (x y : Int) (b : Bool) : closedL 0 (tagC l D x y b) = true := closedL_iff.2 fun z hz => by
 unfold tagC at hz
 rcases List.mem_append.1 hz with h | h
 ·exact closedL_iff.1 (rfl : closedL 0 [Sc.bool l] = true) z h
 ·rcases List.mem_append.1 h with h | h
  ·exact closedL_iff.1 (ints_cl .u8 D 0) z h
  ·exact closedL_iff.1 (rfl : closedL 0 (ptC x y b) = true) z h
theorem tag_cls (l : Bool) (D : List Int) (x y : Int) (b : Bool) : closedTs 0 [.agg (tagC l D x y b)] = true := closedTs_iff.2 fun v hv => by
 simp only [List.mem_cons, List.not_mem_nil, or_false] at hv
 subst hv
 exact tag_cl l D x y b

theorem amt_0 (l : Bool) (w x y : Int) (b : Bool) : takeAt (amtC l w x y b) 0 1 = some [.bool l] := rfl
theorem amt_1 (l : Bool) (w x y : Int) (b : Bool) : takeAt (amtC l w x y b) 1 1 = some [u w] := rfl
theorem amt_2 (l : Bool) (w x y : Int) (b : Bool) : takeAt (amtC l w x y b) 2 9 = some (ptC x y b) := rfl
theorem amt_10 (l : Bool) (w x y : Int) (b : Bool) : takeAt (amtC l w x y b) 10 1 = some [.bool b] := rfl
theorem amt_all (l : Bool) (w x y : Int) (b : Bool) : takeAt (amtC l w x y b) 0 11 = some (amtC l w x y b) := rfl
theorem amt_cl (l : Bool) (w x y : Int) (b : Bool) : closedL 0 (amtC l w x y b) = true := rfl

set_option maxRecDepth 100000 in
theorem rightTag_fn {l b : Bool} {D : List Int} {x y : Int} (hD : D.length = 32) (hx : InW x) (hy : InW y) : Ev.Fn PG f_commit_RightTag [.agg (tagC l D x y b)] (.one (.bool (rightT l D x y b))) := by
 refine fn_startH (fun _ => none) h_commit_RightTag rfl (by kernel_rfl) (fun _ => by kernel_rfl) (tag_cls _ _ _ _ _) rfl fun A => ?_
 have t0 := tag_0 l D x y b
 have t1 := tag_1 hD l x y b
 have t33 := tag_33 hD l x y b
 have c1 := point_fn (b := b) hx hy
 have w := peq0 hx hy ((b == false) && true)
 have eD := eqD (Z := zD) (E := zD) (D := D) hD rfl
 generalize hO : tagC l D x y b = O at *
 cases l with
 | false =>
  refine swp_cut fun K hK hR _ => ?_
  conv => whnf
  refine hK _ _ ?_
  clear hK hR
  refine swp_cut fun K hK hR _ => ?_
  refine swp_cut fun K2 hK2 hR2 _ => ?_
  refine aops_step fun T S hT hS => ?_
  conv => whnf
  refine hT _ _ ?_
  refine aops_step fun T S hT hS => ?_
  conv => whnf
  conv in (takeAt _ _ _) => change takeAt O 0 1; rw [t0]
  conv => whnf
  refine hT _ _ ?_
  refine aops_step fun T S hT hS => ?_
  conv => whnf
  refine hT _ _ ?_
  refine aops_end ?_
  refine hK2 _ _ ?_
  conv => whnf
  conv in (takeAt _ _ _) => change takeAt O 33 9; rw [t33]
  conv => whnf
  refine hR _ _ ?_
  conv => whnf
  intro c N2 _ _
  show TV.one (Sc.bool _) = _
  rw [w]
  rfl
 | true =>
  show swpC _ _ (post _ _ fun v' m => ∀ c N1, Base.le m.N N1 → Lent c N1 m.bs → TV.ext c v' = .one (.bool ((D == zD) && (rightP x y b && !b)))) _ _
  generalize (rightP x y b && !b) = r at *
  generalize (D == zD) = dz at *
  refine swp_cut fun K hK hR _ => ?_
  conv => whnf
  refine hK _ _ ?_
  clear hK hR
  refine swp_cut fun K hK hR _ => ?_
  refine swp_cut fun K2 hK2 hR2 _ => ?_
  refine aops_step fun T S hT hS => ?_
  conv => whnf
  refine hT _ _ ?_
  refine aops_step fun T S hT hS => ?_
  conv => whnf
  conv in (takeAt _ _ _) => change takeAt O 0 1; rw [t0]
  conv => whnf
  refine hT _ _ ?_
  refine aops_step fun T S hT hS => ?_
  conv => whnf
  refine hT _ _ ?_
  refine aops_end ?_
  refine hK2 _ _ ?_
  conv => whnf
  refine hK _ _ ?_
  refine swp_cut fun K3 hK3 hR3 _ => ?_
  refine aops_step fun T S hT hS => ?_
  conv => whnf
  refine hT _ _ ?_
  refine aops_step fun T S hT hS => ?_
  conv => whnf
  conv in (takeAt _ _ _) => change takeAt O 1 32; rw [t1]
  conv => whnf
  refine hT _ _ ?_
  refine aops_step fun T S hT hS => ?_
  conv => whnf
  refine hT _ _ ?_
  refine aops_step fun T S hT hS => ?_
  conv => whnf
  rw [pval_eqD (Z := zD) (D := D) (E := zD) rfl rfl rfl eD]
  conv => whnf
  refine hT _ _ ?_
  cases dz with
  | false =>
   refine aops_step fun T S hT hS => ?_
   conv => whnf
   refine hT _ _ ?_
   refine aops_step fun T S hT hS => ?_
   conv => whnf
   refine hS ?_
   refine aops_step fun T S hT hS => ?_
   conv => whnf
   refine hS ?_
   refine aops_step fun T S hT hS => ?_
   conv => whnf
   refine hS ?_
   iterate 2 (refine aops_step fun T S hT hS => ?_; (conv => whnf); refine hT _ _ ?_)
   refine aops_end ?_
   refine hK3 _ _ ?_
   conv => whnf
   intro c N2 _ _
   rfl
  | true =>
   iterate 2 (refine aops_step fun T S hT hS => ?_; (conv => whnf); refine hT _ _ ?_)
   refine aops_step fun T S hT hS => ?_
   conv => whnf
   conv in (takeAt _ _ _) => change takeAt O 33 9; rw [t33]
   conv => whnf
   refine hT _ _ ?_
   refine aops_step fun T S hT hS => ?_
   conv => whnf
   refine ⟨_, c1, rfl, ?_⟩
   refine hT _ _ ?_
   iterate 2 (refine aops_step fun T S hT hS => ?_; (conv => whnf); refine hT _ _ ?_)
   refine aops_end ?_
   refine hK3 _ _ ?_
   conv => whnf
   intro c N2 _ _
   rfl

def rightA (l : Bool) (w x y : Int) (b : Bool) : Bool :=
 match l with
 | false => isZ x y b
 | true => (w == 0) && (rightP x y b && !b)

set_option maxRecDepth 100000 in
theorem rightAmount_fn {l b : Bool} {w x y : Int} (hx : InW x) (hy : InW y) : Ev.Fn PG f_commit_RightAmount [.agg (amtC l w x y b)] (.one (.bool (rightA l w x y b))) := by
 refine fn_startH (fun _ => none) h_commit_RightAmount rfl (by kernel_rfl) (fun _ => by kernel_rfl) rfl rfl fun A => ?_
 have t0 := amt_0 l w x y b
 have t1 := amt_1 l w x y b
 have t2 := amt_2 l w x y b
 have c1 := point_fn (b := b) hx hy
 have w0 := peq0 hx hy ((b == false) && true)
 generalize hO : amtC l w x y b = O at *
 cases l with
 | false =>
  refine swp_cut fun K hK hR _ => ?_
  conv => whnf
  refine hK _ _ ?_
  clear hK hR
  refine swp_cut fun K hK hR _ => ?_
  refine swp_cut fun K2 hK2 hR2 _ => ?_
  refine aops_step fun T S hT hS => ?_
  conv => whnf
  refine hT _ _ ?_
  refine aops_step fun T S hT hS => ?_
  conv => whnf
  conv in (takeAt _ _ _) => change takeAt O 0 1; rw [t0]
  conv => whnf
  refine hT _ _ ?_
  refine aops_step fun T S hT hS => ?_
  conv => whnf
  refine hT _ _ ?_
  refine aops_end ?_
  refine hK2 _ _ ?_
  conv => whnf
  conv in (takeAt _ _ _) => change takeAt O 2 9; rw [t2]
  conv => whnf
  refine hR _ _ ?_
  conv => whnf
  intro c N2 _ _
  show TV.one (Sc.bool _) = _
  rw [w0]
  rfl
 | true =>
  show swpC _ _ (post _ _ fun v' m => ∀ c N1, Base.le m.N N1 → Lent c N1 m.bs → TV.ext c v' = .one (.bool ((w == 0) && (rightP x y b && !b)))) _ _
  generalize (rightP x y b && !b) = r at *
  obtain ⟨dz, hdz⟩ : ∃ dz, (w == 0) = dz := ⟨_, rfl⟩
  rw [hdz]
  refine swp_cut fun K hK hR _ => ?_
  conv => whnf
  refine hK _ _ ?_
  clear hK hR
  refine swp_cut fun K hK hR _ => ?_
  refine swp_cut fun K2 hK2 hR2 _ => ?_
  refine aops_step fun T S hT hS => ?_
  conv => whnf
  refine hT _ _ ?_
  refine aops_step fun T S hT hS => ?_
  conv => whnf
  conv in (takeAt _ _ _) => change takeAt O 0 1; rw [t0]
  conv => whnf
  refine hT _ _ ?_
  refine aops_step fun T S hT hS => ?_
  conv => whnf
  refine hT _ _ ?_
  refine aops_end ?_
  refine hK2 _ _ ?_
  conv => whnf
  refine hK _ _ ?_
  refine swp_cut fun K3 hK3 hR3 _ => ?_
  refine aops_step fun T S hT hS => ?_
  conv => whnf
  refine hT _ _ ?_
  refine aops_step fun T S hT hS => ?_
  conv => whnf
  conv in (takeAt _ _ _) => change takeAt O 1 1; rw [t1]
  conv => whnf
  refine hT _ _ ?_
  refine aops_step fun T S hT hS => ?_
  conv => whnf
  rw [hdz]
  refine hT _ _ ?_
  cases dz with
  | false =>
   refine aops_step fun T S hT hS => ?_
   conv => whnf
   refine hT _ _ ?_
   refine aops_step fun T S hT hS => ?_
   conv => whnf
   refine hS ?_
   refine aops_step fun T S hT hS => ?_
   conv => whnf
   refine hS ?_
   refine aops_step fun T S hT hS => ?_
   conv => whnf
   refine hS ?_
   iterate 2 (refine aops_step fun T S hT hS => ?_; (conv => whnf); refine hT _ _ ?_)
   refine aops_end ?_
   refine hK3 _ _ ?_
   conv => whnf
   intro c N2 _ _
   rfl
  | true =>
   iterate 2 (refine aops_step fun T S hT hS => ?_; (conv => whnf); refine hT _ _ ?_)
   refine aops_step fun T S hT hS => ?_
   conv => whnf
   conv in (takeAt _ _ _) => change takeAt O 2 9; rw [t2]
   conv => whnf
   refine hT _ _ ?_
   refine aops_step fun T S hT hS => ?_
   conv => whnf
   refine ⟨_, c1, rfl, ?_⟩
   refine hT _ _ ?_
   iterate 2 (refine aops_step fun T S hT hS => ?_; (conv => whnf); refine hT _ _ ?_)
   refine aops_end ?_
   refine hK3 _ _ ?_
   conv => whnf
   intro c N2 _ _
   rfl

theorem tagP_nm {D : List Int} (l b : Bool) {x y : Int} (hx : InW x) (hy : InW y) : ∃ tx ty tb, InW tx ∧ InW ty ∧ (match l with | true => ptV x y b | false => genV D) = ptV tx ty tb := by
 cases l with
 | true => exact ⟨x, y, b, hx, hy, rfl⟩
 | false =>
  obtain ⟨gx, gy, igx, igy, _, eg⟩ := genT_pt D 256 0
  exact ⟨gx, gy, false, igx, igy, eg⟩

set_option maxHeartbeats 1000000 in
set_option maxRecDepth 100000 in
theorem tagC_hc {D : List Int} {x y : Int} (hD : D.length = 32) (hD8 : ∀ z ∈ D, 0 ≤ z ∧ z < 256) (l b : Bool) (A : Base) (hTb : Tab A) : HC PG A f_commit_Tag [.agg (tagC l D x y b)] fun v _ => v = match l with | true => ptV x y b | false => genV D := by
 obtain ⟨gx, gy, igx, igy, _, eg⟩ := genT_pt D 256 0
 have eg : genV D = .agg (ptC gx gy false) := eg
 rw [eg]
 have hex : ∀ c, extL c (u8s D) = u8s D := fun c => extL_closed c (ints_cl _ _ 0)
 have t0 := tag_0 l D x y b
 have t1 := tag_1 hD l x y b
 have t33 := tag_33 hD l x y b
 have hcl := tag_cls l D x y b
 generalize hO : tagC l D x y b = O at *
 have cg := fun (B : Base) (hB : Base.le A B) => genc_hc (A := B) (D := D) (ERead_le hB hTb) hD
 rw [eg] at cg
 cases l with
 | true =>
  refine hc_start (fun _ => none) h_commit_Tag rfl (by kernel_rfl) (by kernel_rfl) hcl ?_
  refine swp_cut fun K hK hR _ => ?_
  conv => whnf
  refine hK _ _ ?_
  clear hK hR
  refine swp_cut fun K hK hR _ => ?_
  refine swp_cut fun K2 hK2 hR2 _ => ?_
  refine aops_step fun T S hT hS => ?_
  conv => whnf
  refine hT _ _ ?_
  refine aops_step fun T S hT hS => ?_
  conv => whnf
  conv in (takeAt _ _ _) => change takeAt O 0 1; rw [t0]
  conv => whnf
  refine hT _ _ ?_
  refine aops_end ?_
  refine hK2 _ _ ?_
  conv => whnf
  conv in (takeAt _ _ _) => change takeAt O 33 9; rw [t33]
  conv => whnf
  refine hR _ _ ?_
  conv => whnf
  intro c N2 _ _
  rfl
 | false =>
  refine hc_start (fun _ => none) h_commit_Tag rfl (by kernel_rfl) (by kernel_rfl) hcl ?_
  refine swp_cut fun K hK hR _ => ?_
  conv => whnf
  refine hK _ _ ?_
  clear hK hR
  refine swp_cut fun K hK hR _ => ?_
  refine swp_cut fun K2 hK2 hR2 _ => ?_
  refine aops_step fun T S hT hS => ?_
  conv => whnf
  refine hT _ _ ?_
  refine aops_step fun T S hT hS => ?_
  conv => whnf
  conv in (takeAt _ _ _) => change takeAt O 0 1; rw [t0]
  conv => whnf
  refine hT _ _ ?_
  refine aops_end ?_
  refine hK2 _ _ ?_
  conv => whnf
  refine hK _ _ ?_
  refine swp_cut fun K3 hK3 hR3 _ => ?_
  refine aops_step fun T S hT hS => ?_
  conv => whnf
  refine hT _ _ ?_
  refine aops_step fun T S hT hS => ?_
  conv => whnf
  conv in (takeAt _ _ _) => change takeAt O 1 32; rw [t1]
  conv => whnf
  refine hT _ _ ?_
  refine aops_step fun T S hT hS => ?_
  conv => whnf
  refine ⟨fun v _ => v = .agg (ptC gx gy false), fun c B hB hL => by
   show HC PG B f_curve_Generator [.agg (extL c (u8s D))] _
   rw [hex c]
   exact cg B (fun r o h => hB r o (.inl h)), ⟨_, B0, rfl, rfl⟩, ?_⟩
  rintro v N' _ rfl N1 _
  refine hT _ _ ?_
  refine aops_step fun T S hT hS => ?_
  conv => whnf
  refine hT _ _ ?_
  refine aops_end ?_
  refine hK3 _ _ ?_
  conv => whnf
  intro c N2 _ _
  rfl

set_option maxHeartbeats 1000000 in
set_option maxRecDepth 100000 in
theorem amtC_hc {D : List Int} {x y w x' y' tx ty : Int} {tb : Bool} (hD : D.length = 32) (hD8 : ∀ z ∈ D, 0 ≤ z ∧ z < 256) (l b : Bool) (hw : InU w) (l' b' : Bool) (itx : InW tx) (ity : InW ty) (et : (match l with | true => ptV x y b | false => genV D) = ptV tx ty tb) (A : Base) (hTb : Tab A) : HC PG A f_commit_Amount [.agg (tagC l D x y b), .agg (amtC l' w x' y' b')] fun v _ => v = (match l' with | true => ptV x' y' b' | false => ptOf (smul w.toNat (tkn tx ty tb))) := by
 have tC := tagC_hc (x := x) (y := y) hD hD8 l b
 rw [et] at tC
 have c1 := scOf_fn hw
 have m1 := cMul_fn (b := tb) (u_in hw) itx ity
 have on := smul_on fld (tkn tx ty tb) (tkn_on _ _ _) w.toNat
 generalize smul w.toNat (tkn tx ty tb) = Q at *
 obtain ⟨sx, sy, sb, isx, isy, es, _, _⟩ := pt_nm Q on
 rw [es] at m1 ⊢
 have ta := tag_all hD l x y b
 have hex : ∀ c, extL c (tagC l D x y b) = tagC l D x y b := fun c => extL_closed c (tag_cl _ _ _ _ _)
 have hcl : closedTs 0 [.agg (tagC l D x y b), .agg (amtC l' w x' y' b')] = true := closedTs_iff.2 fun v hv => by
  simp only [List.mem_cons, List.not_mem_nil, or_false] at hv
  rcases hv with rfl | rfl
  ·exact tag_cl l D x y b
  ·rfl
 have a0 := amt_0 l' w x' y' b'
 have a1 := amt_1 l' w x' y' b'
 have a2 := amt_2 l' w x' y' b'
 generalize hO : tagC l D x y b = O at *
 generalize hO2 : amtC l' w x' y' b' = O2 at *
 cases l' with
 | true =>
  refine hc_start (fun _ => none) h_commit_Amount rfl (by kernel_rfl) (by kernel_rfl) hcl ?_
  refine swp_cut fun K hK hR _ => ?_
  conv => whnf
  refine hK _ _ ?_
  clear hK hR
  refine swp_cut fun K hK hR _ => ?_
  refine swp_cut fun K2 hK2 hR2 _ => ?_
  refine aops_step fun T S hT hS => ?_
  conv => whnf
  refine hT _ _ ?_
  refine aops_step fun T S hT hS => ?_
  conv => whnf
  conv in (takeAt _ _ _) => change takeAt O2 0 1; rw [a0]
  conv => whnf
  refine hT _ _ ?_
  refine aops_end ?_
  refine hK2 _ _ ?_
  conv => whnf
  conv in (takeAt _ _ _) => change takeAt O2 2 9; rw [a2]
  conv => whnf
  refine hR _ _ ?_
  conv => whnf
  intro c N2 _ _
  rfl
 | false =>
  refine hc_start (fun _ => none) h_commit_Amount rfl (by kernel_rfl) (by kernel_rfl) hcl ?_
  refine swp_cut fun K hK hR _ => ?_
  conv => whnf
  refine hK _ _ ?_
  clear hK hR
  refine swp_cut fun K hK hR _ => ?_
  refine swp_cut fun K2 hK2 hR2 _ => ?_
  refine aops_step fun T S hT hS => ?_
  conv => whnf
  refine hT _ _ ?_
  refine aops_step fun T S hT hS => ?_
  conv => whnf
  conv in (takeAt _ _ _) => change takeAt O2 0 1; rw [a0]
  conv => whnf
  refine hT _ _ ?_
  refine aops_end ?_
  refine hK2 _ _ ?_
  conv => whnf
  refine hK _ _ ?_
  refine swp_cut fun K3 hK3 hR3 _ => ?_
  refine aops_step fun T S hT hS => ?_
  conv => whnf
  refine hT _ _ ?_
  refine aops_step fun T S hT hS => ?_
  conv => whnf
  conv in (takeAt _ _ _) => change takeAt O2 1 1; rw [a1]
  conv => whnf
  refine hT _ _ ?_
  refine aops_step fun T S hT hS => ?_
  conv => whnf
  refine ⟨_, c1, rfl, ?_⟩
  refine hT _ _ ?_
  refine aops_step fun T S hT hS => ?_
  conv => whnf
  conv in (takeAt _ _ _) => change takeAt O 0 42; rw [ta]
  conv => whnf
  refine hT _ _ ?_
  refine aops_step fun T S hT hS => ?_
  conv => whnf
  refine ⟨fun v _ => v = ptV tx ty tb, fun c B hB hL => by
   show HC PG B f_commit_Tag [.agg (extL c O)] _
   rw [hex c]
   exact tC B (ERead_le (fun r o h => hB r o (.inl h)) hTb), ⟨_, B0, rfl, rfl⟩, ?_⟩
  rintro v N' _ rfl N1 _
  refine hT _ _ ?_
  refine aops_step fun T S hT hS => ?_
  conv => whnf
  refine ⟨_, m1, rfl, ?_⟩
  refine hT _ _ ?_
  refine aops_step fun T S hT hS => ?_
  conv => whnf
  refine hT _ _ ?_
  refine aops_end ?_
  refine hK3 _ _ ?_
  conv => whnf
  intro c N2 _ _
  rfl

def ordCt : Nat → Option (List Nat)
 | 1 => some [0, 1, 2, 3, 4, 5, 6, 7, 8, 9, 10, 11, 12, 13, 14, 15, 16, 18, 17, 19, 20, 21, 22, 23, 24, 26, 27, 25, 28, 29, 30, 31]
 | _ => none

theorem beq_same (r : Bool) : (r == r) = true := beq_self_eq_true r

end Go.Hv
