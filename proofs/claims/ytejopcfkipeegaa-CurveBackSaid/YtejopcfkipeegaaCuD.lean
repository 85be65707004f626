import Derived.Test.YtejopcfkipeegaaCuE
namespace Go.Hv
open Go.Ev Go.Ec

theorem ones_get {l : List Sc} {i : Nat} {s : Sc} (h : l[i]? = some s) : (ones l)[i]? = some [s] := by simp [ones, h]

/-- Some cells of a slice of one-cell elements. -/
theorem Sl.part {B : Base} {a : Addr} {n cap : Nat} {l : List Sc} (h : Sl B 1 (.one (.slice (some (.ext a)) n cap)) (ones l)) (o : Nat) (x : List Sc) (hx : ∀ (i : Nat) (s : Sc), x[i]? = some s → l[o + i]? = some s) :
    ERead B true x.length (a.add o) (.agg x) := by
  obtain ⟨p, cap', h1, h2, h3, h4⟩ := h
  simp only [TV.one.injEq, Sc.slice.injEq] at h1
  obtain ⟨rfl, _, _⟩ := h1
  refine ⟨x, rfl, fun i s hi => ?_, closedL_iff.2 fun s hs => ?_, rfl⟩
  · rw [addr_add_add a h4.1]
    have := h4.2 (o + i) [s] 0 s (ones_get (hx i s hi)) rfl
    simpa using this
  · obtain ⟨i, hi⟩ := List.getElem?_of_mem hs
    have := h3 [s] (List.mem_of_getElem? (ones_get (hx i s hi)))
    exact closedL_iff.1 this.2 s (by simp)

theorem Sl.part0 {B : Base} {a : Addr} {n cap : Nat} {l : List Sc} (h : Sl B 1 (.one (.slice (some (.ext a)) n cap)) (ones l)) (x : List Sc) (hx : ∀ (i : Nat) (s : Sc), x[i]? = some s → l[i]? = some s) :
    ERead B true x.length a (.agg x) := by
  have h1 := Sl.part h 0 x (fun i s hi => (by rw [Nat.zero_add]; exact hx i s hi : l[0 + i]? = some s))
  obtain ⟨p, cap', h1', h2, h3, h4⟩ := h
  simp only [TV.one.injEq, Sc.slice.injEq] at h1'
  obtain ⟨rfl, _, _⟩ := h1'
  obtain ⟨b, o, sp⟩ := a
  obtain rfl : sp = none := h4.1
  exact h1

theorem wr8 (z : Int) : IntKind.u8.wrap z = z % 256 := by
  simp only [IntKind.wrap, IntKind.signed, IntKind.bits]
  simp

theorem zq {l : Int} (h : InU l) : (IntKind.u8.wrap (l.fdiv (2 ^ 56)) = 0 ∧ IntKind.u8.wrap (l.fdiv (2 ^ 48)) = 0 ∧ IntKind.u8.wrap (l.fdiv (2 ^ 40)) = 0 ∧ IntKind.u8.wrap (l.fdiv (2 ^ 32)) = 0 ∧ IntKind.u8.wrap (l.fdiv (2 ^ 24)) = 0 ∧ IntKind.u8.wrap (l.fdiv (2 ^ 16)) = 0 ∧ IntKind.u8.wrap (l.fdiv (2 ^ 8)) = 0 ∧ IntKind.u8.wrap (l.fdiv (2 ^ 0)) = 0) ↔ l = 0 := by
  have e56 : l.fdiv (2 ^ 56) = l / 72057594037927936 := Int.fdiv_eq_ediv_of_nonneg _ (by decide)
  have e48 : l.fdiv (2 ^ 48) = l / 281474976710656 := Int.fdiv_eq_ediv_of_nonneg _ (by decide)
  have e40 : l.fdiv (2 ^ 40) = l / 1099511627776 := Int.fdiv_eq_ediv_of_nonneg _ (by decide)
  have e32 : l.fdiv (2 ^ 32) = l / 4294967296 := Int.fdiv_eq_ediv_of_nonneg _ (by decide)
  have e24 : l.fdiv (2 ^ 24) = l / 16777216 := Int.fdiv_eq_ediv_of_nonneg _ (by decide)
  have e16 : l.fdiv (2 ^ 16) = l / 65536 := Int.fdiv_eq_ediv_of_nonneg _ (by decide)
  have e8 : l.fdiv (2 ^ 8) = l / 256 := Int.fdiv_eq_ediv_of_nonneg _ (by decide)
  have e0 : l.fdiv (2 ^ 0) = l / 1 := Int.fdiv_eq_ediv_of_nonneg _ (by decide)
  rw [e56, e48, e40, e32, e24, e16, e8, e0]
  simp only [wr8]
  have h1 := h.1
  have h2 := h.2
  constructor
  · rintro ⟨a1, a2, a3, a4, a5, a6, a7, a8⟩
    omega
  · rintro rfl
    decide

theorem z33 {c l0 l1 l2 l3 : Int} (h0 : InU l0) (h1 : InU l1) (h2 : InU l2) (h3 : InU l3) :
    (c == 0 && (IntKind.u8.wrap (l3.fdiv (2 ^ 56)) == 0 && (IntKind.u8.wrap (l3.fdiv (2 ^ 48)) == 0 && (IntKind.u8.wrap (l3.fdiv (2 ^ 40)) == 0 && (IntKind.u8.wrap (l3.fdiv (2 ^ 32)) == 0 && (IntKind.u8.wrap (l3.fdiv (2 ^ 24)) == 0 && (IntKind.u8.wrap (l3.fdiv (2 ^ 16)) == 0 && (IntKind.u8.wrap (l3.fdiv (2 ^ 8)) == 0 && (IntKind.u8.wrap (l3.fdiv (2 ^ 0)) == 0 && (IntKind.u8.wrap (l2.fdiv (2 ^ 56)) == 0 && (IntKind.u8.wrap (l2.fdiv (2 ^ 48)) == 0 && (IntKind.u8.wrap (l2.fdiv (2 ^ 40)) == 0 && (IntKind.u8.wrap (l2.fdiv (2 ^ 32)) == 0 && (IntKind.u8.wrap (l2.fdiv (2 ^ 24)) == 0 && (IntKind.u8.wrap (l2.fdiv (2 ^ 16)) == 0 && (IntKind.u8.wrap (l2.fdiv (2 ^ 8)) == 0 && (IntKind.u8.wrap (l2.fdiv (2 ^ 0)) == 0 && (IntKind.u8.wrap (l1.fdiv (2 ^ 56)) == 0 && (IntKind.u8.wrap (l1.fdiv (2 ^ 48)) == 0 && (IntKind.u8.wrap (l1.fdiv (2 ^ 40)) == 0 && (IntKind.u8.wrap (l1.fdiv (2 ^ 32)) == 0 && (IntKind.u8.wrap (l1.fdiv (2 ^ 24)) == 0 && (IntKind.u8.wrap (l1.fdiv (2 ^ 16)) == 0 && (IntKind.u8.wrap (l1.fdiv (2 ^ 8)) == 0 && (IntKind.u8.wrap (l1.fdiv (2 ^ 0)) == 0 && (IntKind.u8.wrap (l0.fdiv (2 ^ 56)) == 0 && (IntKind.u8.wrap (l0.fdiv (2 ^ 48)) == 0 && (IntKind.u8.wrap (l0.fdiv (2 ^ 40)) == 0 && (IntKind.u8.wrap (l0.fdiv (2 ^ 32)) == 0 && (IntKind.u8.wrap (l0.fdiv (2 ^ 24)) == 0 && (IntKind.u8.wrap (l0.fdiv (2 ^ 16)) == 0 && (IntKind.u8.wrap (l0.fdiv (2 ^ 8)) == 0 && (IntKind.u8.wrap (l0.fdiv (2 ^ 0)) == 0 && true))))))))))))))))))))))))))))))))) = (decide (c = 0) && decide (val l0 l1 l2 l3 = 0)) := by
  have hv : val l0 l1 l2 l3 = 0 ↔ (l0 = 0 ∧ l1 = 0 ∧ l2 = 0 ∧ l3 = 0) := by
    have := h0.1; have := h1.1; have := h2.1; have := h3.1
    unfold val
    constructor
    · intro h; refine ⟨?_, ?_, ?_, ?_⟩ <;> omega
    · rintro ⟨rfl, rfl, rfl, rfl⟩; rfl
  rw [Bool.eq_iff_iff]
  simp only [Bool.and_eq_true, beq_iff_eq, decide_eq_true_eq, hv, and_true]
  rw [← zq h0, ← zq h1, ← zq h2, ← zq h3]
  simp only [and_assoc]
  constructor
  · rintro ⟨a0, a1, a2, a3, a4, a5, a6, a7, a8, a9, a10, a11, a12, a13, a14, a15, a16, a17, a18, a19, a20, a21, a22, a23, a24, a25, a26, a27, a28, a29, a30, a31, a32⟩
    exact ⟨a0, a25, a26, a27, a28, a29, a30, a31, a32, a17, a18, a19, a20, a21, a22, a23, a24, a9, a10, a11, a12, a13, a14, a15, a16, a1, a2, a3, a4, a5, a6, a7, a8⟩
  · rintro ⟨a0, a25, a26, a27, a28, a29, a30, a31, a32, a17, a18, a19, a20, a21, a22, a23, a24, a9, a10, a11, a12, a13, a14, a15, a16, a1, a2, a3, a4, a5, a6, a7, a8⟩
    exact ⟨a0, a1, a2, a3, a4, a5, a6, a7, a8, a9, a10, a11, a12, a13, a14, a15, a16, a17, a18, a19, a20, a21, a22, a23, a24, a25, a26, a27, a28, a29, a30, a31, a32⟩

theorem liftR_in (x : Int) : InW (liftR x).1 := by
  unfold liftR
  split
  · exact sqrtP_lt' _
  · exact ⟨by decide, by decide⟩

def ptL (P : Pt PPn) : List Sc :=
  match P with
  | none => ptC 0 0 true
  | some (a, c) => ptC (vK a) (vK c) false

theorem ptL_of (P : Pt PPn) : ptOf P = .agg (ptL P) := by
  match P with
  | none => rfl
  | some (a, c) => rfl

/-- What Decode answers of thirty-three bytes. -/
def decR (c x : Int) : List Sc × Bool :=
  match decide (c = 0) && decide (x = 0) with
  | true => (ptC 0 0 true, true)
  | false => match (liftR x).2 with
    | true => match decide (c = 2) with
      | true => (ptC x (liftR x).1 false, true)
      | false => match decide (c = 3) with
        | true => (ptL (neg (tkn x (liftR x).1 false)), true)
        | false => (ptC 0 0 true, false)
    | false => (ptC 0 0 true, false)
def decV (c x : Int) : TV := .tup [.agg (decR c x).1, .one (.bool (decR c x).2)]

theorem ones_hp {B : Base} {p : Option SP} {cap : Nat} {L : List Sc} (hs : Sl B 1 (.one (.slice p (ones L).length cap)) (ones L)) : closedTs 0 [TV.one (.slice p (ones L).length cap)] = true :=
  closedTs_iff.2 fun v hv => by simp only [List.mem_singleton] at hv; subst hv; exact hs.stable.1 0

theorem cDecode_no {A : Base} {s : TV} {L : List Sc} (hn : L.length ≠ 33) (hs : Sl A 1 s (ones L)) : HC PG A f_curve_Decode [s] fun v _ => v = .tup [.agg (ptC 0 0 true), .one (.bool false)] := by
  obtain ⟨p, cap, rfl, g1, g2, g3⟩ := id hs
  refine hc_start (fun _ => none) h_curve_Decode rfl (by kernel_rfl) (by kernel_rfl) (ones_hp hs) ?_
  have c0 := zero_fn
  rw [ones_len]
  generalize L.length = n at hn
  have hd : (((n : Nat) : Int) != 33) = true := by
    simp only [bne_iff_ne, ne_eq]
    omega
  refine swp_cut fun K hK hR _ => ?_
  conv => whnf
  refine hK _ _ ?_
  clear hK hR
  refine swp_cut fun K1 hK1 hR1 _ => swp_cut fun K hK hR _ => ?_
  conv => whnf
  refine hK _ _ ?_
  clear hK hR
  rw [hd]
  conv => whnf
  refine ⟨_, c0, rfl, ?_⟩
  conv => whnf
  refine hR1 _ _ ?_
  conv => whnf
  intro c N2 _ _
  rfl

set_option maxHeartbeats 1000000 in
set_option maxRecDepth 100000 in
theorem cDecode_33 {A : Base} {s : TV} {c l0 l1 l2 l3 : Int} (h0 : InU l0) (h1 : InU l1) (h2 : InU l2) (h3 : InU l3) (hs : Sl A 1 s (ones (.int .u8 c :: bcsL l0 l1 l2 l3))) : HC PG A f_curve_Decode [s] fun v _ => v = decV c (val l0 l1 l2 l3) := by
  obtain ⟨p, cap, rfl, g1, g2, g3⟩ := id hs
  refine hc_start (fun _ => none) h_curve_Decode rfl (by kernel_rfl) (by kernel_rfl) (ones_hp hs) ?_
  have c0 := zero_fn
  have hl : (ones (Sc.int .u8 c :: bcsL l0 l1 l2 l3)).length = 33 := rfl
  have hc33 : 33 ≤ cap := by have := g1.1; rwa [hl] at this
  rw [hl] at *
  match p, g3 with
  | none, g3 => exact absurd g3.1 (by simp [ones, bcsL])
  | some (.ext a), _ =>
    refine swp_cut fun K hK hR _ => ?_
    conv => whnf
    refine hK _ _ ?_
    clear hK hR
    refine swp_cut fun K1 hK1 hR1 _ => swp_cut fun K hK hR _ => ?_
    conv => whnf
    refine hK _ _ ?_
    clear hK hR
    conv => whnf
    refine hK1 _ _ ?_
    clear hK1 hR1
    refine swp_cut fun K1 hK1 hR1 _ => swp_cut fun K hK hR _ => ?_
    conv => whnf
    refine ⟨_, ERead_l (Sl.part0 (l := .int .u8 c :: bcsL l0 l1 l2 l3) hs (.int .u8 c :: bcsL l0 l1 l2 l3) (fun i s h => h)), ?_⟩
    conv => whnf
    refine hK _ _ ?_
    clear hK hR
    have ez := z33 (c := c) h0 h1 h2 h3
    have hx : InW (val l0 l1 l2 l3) := by unfold val; exact ⟨by omega, by omega⟩
    have c1 := cLift_fn h0 h1 h2 h3
    conv => whnf
    rw [ez]
    have hq : decR c (val l0 l1 l2 l3) = decR c (val l0 l1 l2 l3) := rfl
    generalize val l0 l1 l2 l3 = x at *
    cases hz : decide (c = 0) && decide (x = 0) with
    | true =>
      conv at hq => rhs; unfold decR; rw [hz]
      conv => whnf
      refine ⟨_, c0, rfl, ?_⟩
      conv => whnf
      refine hR1 _ _ ?_
      conv => whnf
      intro c N2 _ _
      unfold decV
      rw [hq]
      rfl
    | false =>
      conv at hq => rhs; unfold decR; rw [hz]
      conv => whnf
      refine hK1 _ _ ?_
      clear hK1 hR1
      refine swp_cut fun K hK hR _ => ?_
      conv => whnf
      rw [show decide (33 ≤ cap ∧ (0 : Int) ≤ ((33 : Nat) : Int) ∧ ((33 : Nat) : Int) ≤ (cap : Int) ∧ (0 : Int) ≤ 1 ∧ (1 : Int) ≤ ((33 : Nat) : Int)) = true from decide_eq_true (by omega)]
      conv => whnf
      rw [show (Int.toNat 1).beq cap = false from by cases hb : (Int.toNat 1).beq cap with | false => rfl | true => have := Nat.eq_of_beq_eq_true hb; simp only [Int.toNat_one] at this; omega]
      conv => whnf
      refine ⟨_, ERead_l (Sl.part (l := .int .u8 c :: bcsL l0 l1 l2 l3) hs 1 (bcsL l0 l1 l2 l3) (fun i s h => by rw [Nat.add_comm, List.getElem?_cons_succ]; exact h)), ?_⟩
      have hv : liftV x = match (liftR x).2 with
        | true => .tup [.agg (ptC x (liftR x).1 false), .one (.bool true)]
        | false => .tup [.agg (ptC 0 0 true), .one (.bool false)] := rfl
      have hir := liftR_in x
      generalize liftR x = rr at *
      obtain ⟨r, ok⟩ := rr
      simp only at *
      cases ok with
      | true =>
        simp only at hv hq
        rw [hv] at c1
        conv => whnf
        refine ⟨_, c1, rfl, ?_⟩
        conv => whnf
        refine hK _ _ ?_
        clear hK hR
        have hn := cNeg_fn (b := false) hx hir
        have e2 : (c == 2) = decide (c = 2) := rfl
        have e3 : (c == 3) = decide (c = 3) := rfl
        refine swp_cut fun Kb hKb hRb _ => ?_
        refine swp_cut fun K hK hR _ => ?_
        repeat (refine aops_step fun T S hT hS => ?_; (conv => whnf); first | refine hT _ _ ?_ | refine hS ?_ | (refine ⟨_, ERead_l (Sl.one (i := 0) hs rfl), ?_⟩; refine hT _ _ ?_))
        refine aops_end ?_
        refine hK _ _ ?_
        clear hK hR
        conv => whnf
        rw [e2]
        cases h2 : decide (c = 2) with
        | true =>
          rw [h2] at hq
          conv => whnf
          refine hRb _ _ ?_
          conv => whnf
          intro c N2 _ _
          unfold decV
          rw [hq]
          rfl
        | false =>
          rw [h2] at hq
          show swpC _ _ _ _ _
          refine swp_cut fun K hK hR _ => ?_
          repeat (refine aops_step fun T S hT hS => ?_; (conv => whnf); first | refine hT _ _ ?_ | refine hS ?_ | (refine ⟨_, ERead_l (Sl.one (i := 0) hs rfl), ?_⟩; refine hT _ _ ?_))
          refine aops_end ?_
          refine hK _ _ ?_
          clear hK hR
          conv => whnf
          rw [e3]
          cases h3 : decide (c = 3) with
          | true =>
            rw [h3] at hq
            obtain ⟨x', y', b', ix', iy', ep, _, _⟩ := pt_nm (neg (tkn x r false)) (neg_on _ (tkn_on _ _ _))
            have el : ptL (neg (tkn x r false)) = ptC x' y' b' := by
              have := ptL_of (neg (tkn x r false))
              rw [ep] at this
              exact (TV.agg.inj this).symm
            rw [ep] at hn
            rw [el] at hq
            conv => whnf
            refine ⟨_, hn, rfl, ?_⟩
            conv => whnf
            refine hRb _ _ ?_
            conv => whnf
            intro c N2 _ _
            unfold decV
            rw [hq]
            rfl
          | false =>
            rw [h3] at hq
            conv => whnf
            refine hKb _ _ ?_
            refine swp_cut fun K hK hR _ => ?_
            conv => whnf
            refine ⟨_, c0, rfl, ?_⟩
            conv => whnf
            refine hK _ _ ?_
            clear hK hR
            conv => whnf
            intro c N2 _ _
            unfold decV
            rw [hq]
            rfl
      | false =>
        simp only at hv hq
        rw [hv] at c1
        conv => whnf
        refine ⟨_, c1, rfl, ?_⟩
        conv => whnf
        refine hK _ _ ?_
        clear hK hR
        refine swp_cut fun Kb hKb hRb _ => ?_
        refine swp_cut fun K hK hR _ => ?_
        repeat (refine aops_step fun T S hT hS => ?_; (conv => whnf); first | refine hT _ _ ?_ | refine hS ?_ | (refine ⟨_, ERead_l (Sl.one (i := 0) hs rfl), ?_⟩; refine hT _ _ ?_))
        refine aops_end ?_
        refine hK _ _ ?_
        clear hK hR
        conv => whnf
        refine hKb _ _ ?_
        refine swp_cut fun K hK hR _ => ?_
        conv => whnf
        refine ⟨_, c0, rfl, ?_⟩
        conv => whnf
        refine hK _ _ ?_
        clear hK hR
        conv => whnf
        intro c N2 _ _
        unfold decV
        rw [hq]
        rfl

end Go.Hv
