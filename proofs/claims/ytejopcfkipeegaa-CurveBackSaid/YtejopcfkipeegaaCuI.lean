import Derived.Test.YtejopcfkipeegaaCuH
import Derived.Test.YtejopcfkipeegaaCuM
import Derived.Test.YtejopcfkipeegaaCuA
namespace Go.Hv
open Go.Ev Go.Ec

theorem y_ne {a b : KK} (h : On (some (a, b) : Pt PPn)) : b ≠ 0 := fun hb => by
  subst hb
  have e : neg (some (a, 0) : Pt PPn) = some (a, 0) := by
    show some (a, -(0 : KK)) = _
    rw [show -(0 : KK) = 0 by grind]
  have h2 : smul 2 (some (a, 0) : Pt PPn) = none := by
    show add (add none _) _ = none
    have h0 : add (none : Pt PPn) (some (a, 0)) = some (a, 0) := by
      have := add_none fld (some (a, 0) : Pt PPn) h
      rw [← add_comm]
      exact this
    rw [h0]
    have := add_neg fld (some (a, 0) : Pt PPn) h
    rw [e] at this
    exact this
  have hn := n_all rfl (some (a, 0) : Pt PPn) h
  have h1 := smul_gcd fld (some (a, 0) : Pt PPn) h 2 _ h2 hn
  rw [show Nat.gcd 2 115792089237316195423570985008687907852837564279074904382605163141518161494337 = 1 by decide +kernel] at h1
  have h0 : smul 1 (some (a, 0) : Pt PPn) = some (a, 0) := by
    show add none _ = _
    have := add_none fld (some (a, 0) : Pt PPn) h
    rw [← add_comm]
    exact this
  rw [h0] at h1
  cases h1

theorem map_inj {l l' : List Sc} (h : isB l) (h' : isB l') : l.map scI = l'.map scI ↔ l = l' := by
  constructor
  · intro e
    rw [← isB_bytes h, ← isB_bytes h', e]
  · intro e
    rw [e]

theorem eqB_dec {l l' : List Sc} (h : isB l) (h' : isB l') (P : Prop) [Decidable P] (e : l = l' ↔ P) : eqB l l' = decide P := by
  rw [eqB_iff h h']
  exact decide_eq_decide.2 ((map_inj h h').trans e)

theorem bcs4_zero {x : Int} (hx : InW x) : bcs4 x = List.replicate 32 (.int .u8 0) ↔ x = 0 := by
  constructor
  · intro h
    obtain ⟨l0, l1, l2, l3, h0, h1, h2, h3, rfl⟩ := split4 hx
    have z := z33 (c := 0) h0 h1 h2 h3
    rw [← bcsL_val h0 h1 h2 h3] at h
    simp only [bcsL, bq, List.replicate, List.cons.injEq, Sc.int.injEq, true_and, and_true] at h
    obtain ⟨a1, a2, a3, a4, a5, a6, a7, a8, a9, a10, a11, a12, a13, a14, a15, a16, a17, a18, a19, a20, a21, a22, a23, a24, a25, a26, a27, a28, a29, a30, a31, a32⟩ := h
    simp only [a1, a2, a3, a4, a5, a6, a7, a8, a9, a10, a11, a12, a13, a14, a15, a16, a17, a18, a19, a20, a21, a22, a23, a24, a25, a26, a27, a28, a29, a30, a31, a32, beq_self_eq_true, Bool.and_self, decide_true, Bool.true_and] at z
    exact of_decide_eq_true z.symm
  · rintro rfl
    rfl

theorem enc_z {c x : Int} (hx : InW x) (hc : 0 ≤ c ∧ c < 256) : eqB (List.replicate 33 (.int .u8 0)) (.int .u8 c :: bcs4 x) = (decide (c = 0) && decide (x = 0)) := by
  rw [eqB_dec (isB_zero 33) (isB_cons hc (isB_bcs4 x)) (c = 0 ∧ x = 0) ?_, Bool.decide_and]
  rw [List.replicate_succ, List.cons.injEq]
  constructor
  · rintro ⟨h1, h2⟩
    exact ⟨(Sc.int.inj h1).2.symm, (bcs4_zero hx).1 h2.symm⟩
  · rintro ⟨rfl, h2⟩
    exact ⟨rfl, ((bcs4_zero hx).2 h2).symm⟩

theorem enc_c {c d x : Int} (hc : 0 ≤ c ∧ c < 256) (hd : 0 ≤ d ∧ d < 256) : eqB (.int .u8 d :: bcs4 x) (.int .u8 c :: bcs4 x) = decide (c = d) := by
  rw [eqB_dec (isB_cons hd (isB_bcs4 x)) (isB_cons hc (isB_bcs4 x)) (c = d) ?_]
  rw [List.cons.injEq]
  constructor
  · rintro ⟨h1, _⟩
    exact (Sc.int.inj h1).2.symm
  · rintro rfl
    exact ⟨rfl, rfl⟩

theorem decE_ok {c x r : Int} (hx : InW x) (hc : 0 ≤ c ∧ c < 256) (hl : liftR x = (r, true)) :
    InW r ∧ InW (-r % pp) ∧ ptOf (neg (tkn x r false)) = ptV x (-r % pp) false ∧ decE (.int .u8 c :: bcs4 x) x r false x (-r % pp) false = decR c x := by
  have hr := lift_right (x := x) (by rw [hl])
  rw [hl] at hr
  obtain ⟨g1, g2, g3⟩ := hr
  simp only at g1 g2 g3
  have hk := rightP_K g1
  have g1' := g1
  simp only [rightP, Bool.and_eq_true, decide_eq_true_eq] at g1'
  obtain ⟨hxp, hrp, hcv⟩ := g1'
  have et : tkn x r false = some (toK x, toK r) := by unfold tkn; rw [g1]
  have hon : On (some (toK x, toK r) : Pt PPn) := by rw [← et]; exact tkn_on _ _ _
  have hr0 := y_ne hon
  have en : neg (tkn x r false) = some (toK x, -toK r) := by rw [et]; rfl
  have e1 : encC x r false = .int .u8 2 :: bcs4 x := by
    unfold encC
    rw [g1]
    simp only [hrp]
    rw [if_neg (by omega)]
  have hne : r ≠ 0 := fun h => hr0 (by rw [h]; exact toK_zero)
  have ev : vK (-toK r) = -r % pp := by rw [← negK, ← hk.2]
  have eL : ptL (neg (tkn x r false)) = ptC x (-r % pp) false := by
    rw [en]
    show ptC (vK (toK x)) (vK (-toK r)) false = _
    rw [ev, ← hk.1]
  have hpos : -r % pp = pp - r := by
    have := g3.1
    unfold pp at *
    omega
  have inn : InW (-r % pp) := by rw [← ev]; exact vK_in _
  have gn : rightP x (-r % pp) false = true := by
    simp only [rightP, Bool.and_eq_true, decide_eq_true_eq]
    refine ⟨hxp, Int.emod_emod_of_dvd _ (Int.dvd_refl _), ?_⟩
    rw [← ev, toK_vK, ← hcv]
    grind
  have en2 : encC x (-r % pp) false = .int .u8 3 :: bcs4 x := by
    unfold encC
    rw [gn]
    simp only [Int.emod_emod_of_dvd _ (Int.dvd_refl pp)]
    rw [hpos, if_pos (by unfold pp; omega)]
  refine ⟨g3, inn, by rw [ptL_of, eL]; rfl, ?_⟩
  unfold decE decR
  rw [show encC 0 0 true = List.replicate 33 (.int .u8 0) from rfl, enc_z hx hc, e1, en2, enc_c hc (by decide), enc_c hc (by decide), hl, eL]
  rfl

theorem decE_no {c x r : Int} (hx : InW x) (hc : 0 ≤ c ∧ c < 256) (hl : liftR x = (r, false)) :
    decE (.int .u8 c :: bcs4 x) 0 0 true 0 0 true = decR c x := by
  unfold decE decR
  rw [show encC 0 0 true = List.replicate 33 (.int .u8 0) from rfl, enc_z hx hc, hl]
  cases decide (c = 0) && decide (x = 0) <;> rfl

theorem r5Decode_V {A : Base} {s : TV} {c l0 l1 l2 l3 : Int} (hc : 0 ≤ c ∧ c < 256) (h0 : InU l0) (h1 : InU l1) (h2 : InU l2) (h3 : InU l3) (hs : Sl A 1 s (ones (.int .u8 c :: bcsL l0 l1 l2 l3))) :
    HC PG A f_ref05_Decode [s] fun v _ => v = decV c (val l0 l1 l2 l3) := by
  have hx : InW (val l0 l1 l2 l3) := by unfold val; exact ⟨by omega, by omega⟩
  have i0 : InW 0 := ⟨by decide, by decide⟩
  have hv : liftV (val l0 l1 l2 l3) = match (liftR (val l0 l1 l2 l3)).2 with
    | true => .tup [.agg (ptC (val l0 l1 l2 l3) (liftR (val l0 l1 l2 l3)).1 false), .one (.bool true)]
    | false => .tup [.agg (ptC 0 0 true), .one (.bool false)] := rfl
  have hd := bcsL_val h0 h1 h2 h3
  cases hl : liftR (val l0 l1 l2 l3) with
  | mk r ok =>
    rw [hl] at hv
    cases ok with
    | true =>
      obtain ⟨ir, inn, ep, e⟩ := decE_ok hx hc hl
      have := r5Decode_33 hc h0 h1 h2 h3 hs hx ir hx inn hv ep
      rw [hd, e] at this
      exact this
    | false =>
      have := r5Decode_33 hc h0 h1 h2 h3 hs (nb := true) i0 i0 i0 i0 hv rfl
      rw [hd, decE_no hx hc hl] at this
      exact this

end Go.Hv
