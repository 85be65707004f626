import Derived.Test.YtejopcfkipeegaaCuJ
namespace Go.Hv
open Go.Ev Go.Ec

/-- Decode of Encode. -/
theorem dec_enc {x y : Int} {b : Bool} (hx : InW x) (hy : InW y) : ∃ c X, (0 ≤ c ∧ c < 256) ∧ InW X ∧ encC x y b = .int .u8 c :: bcs4 X ∧ decR c X = (ptL (tkn x y b), true) := by
  have i0 : InW 0 := ⟨by decide, by decide⟩
  cases b with
  | true => exact ⟨0, 0, by decide, i0, rfl, rfl⟩
  | false =>
    cases hr : rightP x y false with
    | false =>
      have et : tkn x y false = none := by unfold tkn; rw [hr]
      exact ⟨0, 0, by decide, i0, by unfold encC; rw [hr]; rfl, by rw [et]; rfl⟩
    | true =>
      have et : tkn x y false = some (toK x, toK y) := by unfold tkn; rw [hr]
      have hk := rightP_K hr
      have hr' := hr
      simp only [rightP, Bool.and_eq_true, decide_eq_true_eq] at hr'
      obtain ⟨hxp, hyp, hcv⟩ := hr'
      have hv : vK (toK x * toK x * toK x + 7) = y * y % pp := by rw [← hcv, ← toK_mul, vK_toK]
      have hl : liftR x = sqrtP (y * y % pp) := by unfold liftR; rw [decide_eq_true hxp, hv]
      have h2 := sqrtP_of_sq y
      have hpm := sqrtP_pm y
      have hev := sqrtP_even (y * y % pp)
      rw [sqrtP_lt] at hev
      rw [← hl] at h2 hpm hev
      refine ⟨if y % pp % 2 = 1 then 3 else 2, x, by split <;> decide, hx, by unfold encC; rw [hr], ?_⟩
      rw [hyp] at hpm ⊢
      have eL : ptL (tkn x y false) = ptC x y false := by
        rw [et]
        show ptC (vK (toK x)) (vK (toK y)) false = _
        rw [← hk.1, ← hk.2]
      have hon : On (some (toK x, toK y) : Pt PPn) := by rw [← et]; exact tkn_on _ _ _
      have hne : y ≠ 0 := fun h => y_ne hon (by rw [h]; exact toK_zero)
      have hlt : 0 ≤ y ∧ y < pp := by have := hy.1; unfold pp at *; omega
      have hneg : -y % pp = pp - y := by unfold pp at *; omega
      have hle : liftR x = ((liftR x).1, true) := by rw [← h2]
      rw [eL]
      by_cases ho : y % 2 = 1
      · have er : (liftR x).1 = pp - y := by
          rcases hpm with h | h
          · rw [h] at hev; omega
          · rw [h, hneg]
        rw [if_pos ho]
        obtain ⟨_, _, ep, _⟩ := decE_ok (c := 3) hx (by decide) hle
        have e2 : -(liftR x).1 % pp = y := by rw [er]; unfold pp at *; omega
        rw [e2, ptL_of] at ep
        unfold decR
        rw [h2]
        exact congrArg (fun l => (l, true)) (TV.agg.inj ep)
      · have er : (liftR x).1 = y := by
          rcases hpm with h | h
          · exact h
          · rw [h, hneg] at hev; unfold pp at *; omega
        rw [if_neg ho]
        unfold decR
        rw [h2, er]
        rfl

theorem enc_lift {x r : Int} (hl : liftR x = (r, true)) : InW r ∧ InW (-r % pp) ∧ encC x r false = .int .u8 2 :: bcs4 x ∧ encC x (-r % pp) false = .int .u8 3 :: bcs4 x ∧ ptL (neg (tkn x r false)) = ptC x (-r % pp) false := by
  have hr := lift_right (x := x) (by rw [hl])
  rw [hl] at hr
  obtain ⟨g1, g2, g3⟩ := hr
  simp only at g1 g2 g3
  have hk := rightP_K g1
  have g1' := g1
  simp only [rightP, Bool.and_eq_true, decide_eq_true_eq] at g1'
  obtain ⟨hxp, hrp, hcv⟩ := g1'
  have et : tkn x r false = some (toK x, toK r) := by unfold tkn; rw [g1]
  have hon : On (some (toK x, toK r) : Pt PPn) := by rw [← et]; exact tkn_on _ _ _
  have hr0 := y_ne hon
  have en : neg (tkn x r false) = some (toK x, -toK r) := by rw [et]; rfl
  have e1 : encC x r false = .int .u8 2 :: bcs4 x := by
    unfold encC
    rw [g1]
    simp only [hrp]
    rw [if_neg (by omega)]
  have hne : r ≠ 0 := fun h => hr0 (by rw [h]; exact toK_zero)
  have ev : vK (-toK r) = -r % pp := by rw [← negK, ← hk.2]
  have eL : ptL (neg (tkn x r false)) = ptC x (-r % pp) false := by
    rw [en]
    show ptC (vK (toK x)) (vK (-toK r)) false = _
    rw [ev, ← hk.1]
  have hpos : -r % pp = pp - r := by
    have := g3.1
    unfold pp at *
    omega
  have inn : InW (-r % pp) := by rw [← ev]; exact vK_in _
  have gn : rightP x (-r % pp) false = true := by
    simp only [rightP, Bool.and_eq_true, decide_eq_true_eq]
    refine ⟨hxp, Int.emod_emod_of_dvd _ (Int.dvd_refl _), ?_⟩
    rw [← ev, toK_vK, ← hcv]
    grind
  have en2 : encC x (-r % pp) false = .int .u8 3 :: bcs4 x := by
    unfold encC
    rw [gn]
    simp only [Int.emod_emod_of_dvd _ (Int.dvd_refl pp)]
    rw [hpos, if_pos (by unfold pp; omega)]
  exact ⟨g3, inn, e1, en2, eL⟩

/-- Encode of what Decode took. -/
theorem enc_dec {c X : Int} (hX : InW X) : ∃ x y b, InW x ∧ InW y ∧ (decR c X).1 = ptC x y b ∧ ((decR c X).2 = true → encC x y b = .int .u8 c :: bcs4 X) ∧ ((decR c X).2 = false → x = 0 ∧ y = 0 ∧ b = true) := by
  have i0 : InW 0 := ⟨by decide, by decide⟩
  unfold decR
  split
  · rename_i h
    simp only [Bool.and_eq_true, decide_eq_true_eq] at h
    obtain ⟨rfl, rfl⟩ := h
    exact ⟨0, 0, true, i0, i0, rfl, fun _ => rfl, fun h => by cases h⟩
  · split
    · rename_i h2
      have hle : liftR X = ((liftR X).1, true) := by rw [← h2]
      obtain ⟨a1, a2, a3, a4, a5⟩ := enc_lift hle
      split
      · rename_i h
        obtain rfl := of_decide_eq_true h
        exact ⟨X, _, false, hX, a1, rfl, fun _ => a3, fun h => by cases h⟩
      · split
        · rename_i h
          obtain rfl := of_decide_eq_true h
          exact ⟨X, _, false, hX, a2, a5, fun _ => a4, fun h => by cases h⟩
        · exact ⟨0, 0, true, i0, i0, rfl, fun h => (by cases h), fun _ => ⟨rfl, rfl, rfl⟩⟩
    · exact ⟨0, 0, true, i0, i0, rfl, fun h => (by cases h), fun _ => ⟨rfl, rfl, rfl⟩⟩

theorem SlN.rn {p : Option SP} (h : SlN p) (n cap : Nat) (F : Nat → Bool) (c : Con) (ρ : Ren) : TV.one (.slice p n cap) = TV.rn F c ρ (.one (.slice p n cap)) := by
  match p, h with
  | none, _ => rfl
  | some (.ext a), _ => rfl
  | some (.loc b o), h => exact absurd rfl (h b o)

theorem dec_b {A : Base} {p : Option SP} {n cap : Nat} (hp : SlN p) (h33 : n = 33 → ∃ L, isB L ∧ L.length = 33 ∧ Sl A 1 (.one (.slice p n cap)) (ones L)) : ∃ x y b ok, InW x ∧ InW y ∧
    (∀ B, Base.le A B → HC PG B f_curve_Decode [.one (.slice p n cap)] fun v _ => v = .tup [.agg (ptC x y b), .one (.bool ok)]) ∧
    (ok = true → n = 33 ∧ ∃ d k0 k1 k2 k3, (0 ≤ d ∧ d < 256) ∧ encC x y b = .int .u8 d :: bcsL k0 k1 k2 k3 ∧ Sl A 1 (.one (.slice p n cap)) (ones (.int .u8 d :: bcsL k0 k1 k2 k3))) ∧
    (ok = false → x = 0 ∧ y = 0 ∧ b = true) := by
  have i0 : InW 0 := ⟨by decide, by decide⟩
  by_cases hn : n = 33
  · obtain ⟨L, hB, hl, hs⟩ := h33 hn
    obtain ⟨c, l0, l1, l2, l3, hc, h0, h1, h2, h3, rfl⟩ := isB_split hB hl
    have hX : InW (val l0 l1 l2 l3) := by unfold val; exact ⟨by omega, by omega⟩
    obtain ⟨x, y, b, ix, iy, e1, e2, e3⟩ := enc_dec (c := c) hX
    refine ⟨x, y, b, (decR c (val l0 l1 l2 l3)).2, ix, iy, fun B hB' => ?_, fun hk => ⟨hn, c, l0, l1, l2, l3, hc, ?_, hs⟩, e3⟩
    · have := cDecode_33 (c := c) h0 h1 h2 h3 (hs.mono hB')
      unfold decV at this
      rw [e1] at this
      exact this
    · rw [e2 hk, bcsL_val h0 h1 h2 h3]
  · exact ⟨0, 0, true, false, i0, i0, fun B _ => cDecode_n hn hp, fun h => (by cases h), fun _ => ⟨rfl, rfl, rfl⟩⟩

theorem sl_ext {A : Base} {es : Nat} {p : Option SP} {n cap : Nat} {L : List (List Sc)} (h : Sl A es (.one (.slice p n cap)) L) (hL : L ≠ []) : ∃ a, p = some (.ext a) := by
  obtain ⟨p', cap', e1, _, _, h4⟩ := h
  simp only [TV.one.injEq, Sc.slice.injEq] at e1
  obtain ⟨rfl, _, _⟩ := e1
  match p, h4 with
  | none, h4 => exact absurd h4.1 hL
  | some (.ext a), _ => exact ⟨a, rfl⟩

def CgE (p : Option SP) (cap0 j : Nat) : Env := [(55, .one (.int .i64 (j : Int))), (12, .one (.ptr (some (.loc 5 0)))), (4, .one (.bool false)), (1, .one (.slice p 33 cap0))]

def CgI (p : Option SP) (cap0 : Nat) (R : List Sc) (k : Nat) (e : Env) (m : HM) : Prop :=
  ∃ (j t0 : Nat) (N : Base), j ≤ 33 ∧ k = 33 - j ∧ e = CgE p cap0 j ∧ m = ⟨[none, none, none, none, none, some ⟨R, t0, 0, false⟩], N⟩

def CbE (p : Option SP) (n cap0 j : Nat) (sl : TV) : Env := [(16, .one (.int .i64 (j : Int))), (6, sl), (5, .one (.ptr (some (.loc 1 0)))), (4, .one (.bool false)), (2, .one (.ptr (some (.loc 0 0)))), (1, .one (.slice p n cap0))]

def CbI (p : Option SP) (n cap0 : Nat) (R P : List Sc) (k : Nat) (e : Env) (m : HM) : Prop :=
  ∃ (j t0 t1 : Nat) (N : Base), j ≤ 33 ∧ k = 33 - j ∧
    ((j = 0 ∧ e = CbE p n cap0 0 (.one (.slice none 0 0)) ∧ m = ⟨[some ⟨P, t0, 0, false⟩, some ⟨R, t1, 0, false⟩], N⟩) ∨
      (0 < j ∧ ∃ cap, j ≤ cap ∧ e = CbE p n cap0 j (.one (.slice (some (.loc 2 0)) j cap)) ∧
        m = ⟨[some ⟨P, t0, 0, false⟩, some ⟨R, t1, 0, false⟩, some ⟨R.take j, 5, cap * 1, true⟩], N⟩))

set_option maxHeartbeats 1000000 in
set_option maxRecDepth 100000 in
theorem lawCurveBack_hc {A : Base} {p : Option SP} {n cap0 : Nat} {x y : Int} (hx : InW x) (hy : InW y) (b : Bool) (hpn : SlN p) (h33 : n = 33 → ∃ L, isB L ∧ L.length = 33 ∧ Sl A 1 (.one (.slice p n cap0)) (ones L)) : HC PG A f_law05_CurveBack [ptV x y b, .one (.slice p n cap0)] fun v _ => v = .one (.bool true) := by
  have st := hpn.stable n cap0
  have hp : closedTs 0 [ptV x y b, TV.one (.slice p n cap0)] = true := closedTs_iff.2 fun v hv => by
    simp only [List.mem_cons, List.not_mem_nil, or_false] at hv
    rcases hv with rfl | rfl
    · rfl
    · exact st.1 0
  refine hc_start (fun _ => none) h_law05_CurveBack rfl (by kernel_rfl) (by kernel_rfl) hp ?_
  obtain ⟨c, X, hc, hX, eE, eD⟩ := dec_enc (b := b) hx hy
  obtain ⟨l0, l1, l2, l3, h0, h1, h2, h3, rfl⟩ := split4 hX
  rw [← bcsL_val h0 h1 h2 h3] at eE
  have c1 := cEncode_fn (b := b) hx hy
  rw [eE] at c1
  have a5 := alive5_fn
  have ct := taken_fn (b := b) hx hy
  rw [ptL_of] at ct
  refine swp_cut fun K hK hR _ => ?_
  conv => whnf
  refine hK _ _ ?_
  clear hK hR
  refine swp_cut fun K hK hR _ => ?_
  conv => whnf
  refine ⟨_, c1, rfl, ?_⟩
  conv => whnf
  refine hK _ _ ?_
  clear hK hR
  refine swp_cut fun K hK hR _ => ?_
  conv => whnf
  refine hK _ _ ?_
  clear hK hR
  refine swp_cut fun K hK hR _ => ?_
  conv => whnf
  have hcl : closedL 0 (Sc.int .u8 c :: bcsL l0 l1 l2 l3) = true := rfl
  refine .inr (loop_invR (gH A _) (CbI p n cap0 (Sc.int .u8 c :: bcsL l0 l1 l2 l3) (ptC x y b)) ?_ ?_)
  · intro k' e' m' hI
    obtain ⟨j, t0, t1, N, hj33, rfl, hcase⟩ := hI
    rcases hcase with ⟨rfl, rfl, rfl⟩ | ⟨hj0, cap, hcap, rfl, rfl⟩
    · have hj : 0 < 33 := by omega
      have hblk : ∀ (cc : Con) (ρ : Ren) (cap : Nat), (⟨(Sc.int .u8 c :: bcsL l0 l1 l2 l3).take (0 + 1), 5, cap * 1, true⟩ : Blk) = ⟨rnL F0 cc ρ [(Sc.int .u8 c :: bcsL l0 l1 l2 l3)[0]], 5, cap * 1, true⟩ := fun cc ρ cap => by rw [rnL_id rfl]; rfl
      conv => whnf
      refine ⟨[_], rfl, rfl, rfl, ?_⟩
      conv => whnf
      refine ⟨cap_bytes (by omega), by omega, fun cap' hcap' => ?_⟩
      conv => whnf
      refine ⟨32, F0, tp 2 3, by omega, tp_ok (by exact Nat.le_of_ble_eq_true rfl) (by exact Nat.le_of_ble_eq_true rfl), fun c N1 _ _ => ⟨_, _, wkR_of (by (repeat' apply And.intro) <;> first | trivial | exact ⟨_, rfl, tv_inc (n := 33) hj (by omega), rfl⟩ | exact ⟨_, rfl, rfl, rfl⟩ | exact ⟨_, rfl, hpn.rn _ _ _ _ _, st.1 _⟩) (by (repeat' apply And.intro) <;> first | trivial | rfl | exact ⟨_, rfl, rfl, rfl⟩ | exact ⟨_, rfl, hblk c (tp 2 3) cap', take_cl hcl _⟩) (by exact Nat.le_of_ble_eq_true rfl), ⟨1, t0, t1, N1, by omega, rfl, .inr ⟨by omega, cap', hcap', rfl, rfl⟩⟩⟩⟩
    · conv => whnf
      cases hlt : decide ((j : Int) < 33) with
      | true =>
        have hj : j < 33 := by have := of_decide_eq_true hlt; omega
        have hj' : j < (Sc.int .u8 c :: bcsL l0 l1 l2 l3).length := by rw [show (Sc.int .u8 c :: bcsL l0 l1 l2 l3).length = 33 from rfl]; exact hj
        have tk := take1 (l := Sc.int .u8 c :: bcsL l0 l1 l2 l3) (j := j) hj'
        have hlen : ((Sc.int .u8 c :: bcsL l0 l1 l2 l3).take j).length = j * 1 := by rw [List.length_take, show (Sc.int .u8 c :: bcsL l0 l1 l2 l3).length = 33 from rfl]; omega
        have hcl1 : closedL 0 [(Sc.int .u8 c :: bcsL l0 l1 l2 l3)[j]'hj'] = true := closedL_iff.2 fun s hs => by
          simp only [List.mem_singleton] at hs
          subst hs
          exact closedL_iff.1 hcl _ (List.getElem_mem _)
        generalize hcj : (Sc.int .u8 c :: bcsL l0 l1 l2 l3)[j]'hj' = cj at *
        have hblk : ∀ (cc : Con) (ρ : Ren) (cap : Nat), (⟨(Sc.int .u8 c :: bcsL l0 l1 l2 l3).take (j + 1), 5, cap * 1, true⟩ : Blk) = ⟨rnL F0 cc ρ ((Sc.int .u8 c :: bcsL l0 l1 l2 l3).take j ++ [cj]), 5, cap * 1, true⟩ := fun cc ρ cap => by
          rw [← hcj, take_snoc, rnL_id (take_cl hcl _)]
        conv => whnf
        rw [dec_idx (n := 33) hj]
        conv => whnf
        conv in (takeAt _ _ _) => change takeAt (Sc.int .u8 c :: bcsL l0 l1 l2 l3) (0 + j * 1) 1; rw [tk]
        conv => whnf
        refine ⟨[_], rfl, rfl, rfl, ?_⟩
        conv => whnf
        refine ⟨hlen, hcap, rfl, rfl, cap_bytes (by omega), fun cap' hcap' => ?_⟩
        conv => whnf
        refine ⟨33 - (j + 1), F0, tp 2 4, by omega, tp_ok (by exact Nat.le_of_ble_eq_true rfl) (by exact Nat.le_of_ble_eq_true rfl), fun c N1 _ _ => ⟨_, _, wkR_of (by (repeat' apply And.intro) <;> first | trivial | exact ⟨_, rfl, tv_inc (n := 33) hj (by omega), rfl⟩ | exact ⟨_, rfl, rfl, rfl⟩ | exact ⟨_, rfl, hpn.rn _ _ _ _ _, st.1 _⟩) (by (repeat' apply And.intro) <;> first | trivial | rfl | exact ⟨_, rfl, rfl, rfl⟩ | exact ⟨_, rfl, hblk c (tp 2 4) cap', take_cl hcl _⟩) (by exact Nat.le_of_ble_eq_true rfl), ⟨j + 1, t0, t1, N1, hj, rfl, .inr ⟨by omega, cap', hcap', rfl, rfl⟩⟩⟩⟩
      | false =>
        have : j = 33 := by have := of_decide_eq_false hlt; omega
        subst this
        conv => whnf
        refine hK _ _ ?_
        clear hK hR
        obtain ⟨x', y', b', ix', iy', ep, _, _⟩ := pt_nm (tkn x y b) (tkn_on _ _ _)
        have eP : ptL (tkn x y b) = ptC x' y' b' := by
          rw [ptL_of] at ep
          exact TV.agg.inj ep
        have eV : decV c (val l0 l1 l2 l3) = .tup [.agg (ptC x' y' b'), .one (.bool true)] := by
          unfold decV
          rw [eD, eP]
        rw [eP] at ct
        refine swp_cut fun K hK hR _ => ?_
        conv => whnf
        refine ⟨fun v _ => v = .tup [.agg (ptC x' y' b'), .one (.bool true)], fun c' B hB hL => by
          rw [← eV]
          exact cDecode_33 h0 h1 h2 h3 (sl_lent (b := 2) (o := 0) (L := ones (Sc.int .u8 c :: bcsL l0 l1 l2 l3)) (post := []) hL rfl (take_cl hcl 33) (by rw [ones_flat]; rfl) rfl hcap (by show 33 ≤ 140737488355128; omega) (ones_es _)), ⟨_, B0, rfl, rfl⟩, ?_⟩
        rintro v N' _ rfl N1 _
        conv => whnf
        refine hK _ _ ?_
        clear hK hR
        have w := same9 x' y' b'
        refine swp_cut fun K1 hK1 hR1 _ => swp_cut fun K hK hR _ => ?_
        repeat (refine aops_step fun T S hT hS => ?_; (conv => whnf); (try rw [w]); first | refine hT _ _ ?_ | refine hS ?_ | (refine ⟨_, a5, rfl, ?_⟩; refine hT _ _ ?_) | (refine ⟨_, ct, rfl, ?_⟩; refine hT _ _ ?_))
        refine aops_end ?_
        refine hK _ _ ?_
        conv => whnf
        refine hK1 _ _ ?_
        clear hK1 hR1
        clear hK hR
        obtain ⟨x2, y2, b2, ok2, ix2, iy2, d, dT, dF⟩ := dec_b hpn h33
        have hc2 : ∀ (c : Con) (B : Base), Base.le A B → HC PG B f_curve_Decode [TV.ext c (.one (.slice p n cap0))] fun v _ => v = .tup [.agg (ptC x2 y2 b2), .one (.bool ok2)] := fun c B hB => by rw [st.2.2 c]; exact d B hB
        have z0 := zero_fn
        refine swp_cut fun K hK hR _ => ?_
        conv => whnf
        refine ⟨fun v _ => v = .tup [.agg (ptC x2 y2 b2), .one (.bool ok2)], fun c B hB hL => hc2 c B (fun r o h => hB r o (Or.inl h)), ⟨_, B0, rfl, rfl⟩, ?_⟩
        rintro v N' _ rfl N1 _
        conv => whnf
        refine hK _ _ ?_
        clear hK hR
        cases ok2 with
        | false =>
          obtain ⟨rfl, rfl, rfl⟩ := dF rfl
          refine swp_cut fun K1 hK1 hR1 _ => swp_cut fun K hK hR _ => ?_
          conv => whnf
          refine hK _ _ ?_
          clear hK hR
          conv => whnf
          refine ⟨_, z0, rfl, ?_⟩
          conv => whnf
          refine hR1 _ _ ?_
          conv => whnf
          intro c N2 _ _
          rfl
        | true =>
          obtain ⟨rfl, dd, k0, k1, k2, k3, hd, eE2, hs⟩ := dT rfl
          obtain ⟨a, ha⟩ := sl_ext hs (fun h => by cases h)
          have c5 := cEncode_fn (b := b2) ix2 iy2
          rw [eE2] at c5
          refine swp_cut fun K1 hK1 hR1 _ => swp_cut fun K hK hR _ => ?_
          conv => whnf
          refine hK _ _ ?_
          clear hK hR
          conv => whnf
          conv => whnf
          refine hK1 _ _ ?_
          clear hK1 hR1
          refine swp_cut fun K hK hR _ => ?_
          conv => whnf
          refine ⟨_, c5, rfl, ?_⟩
          conv => whnf
          refine hK _ _ ?_
          clear hK hR
          refine swp_cut fun K hK hR _ => ?_
          refine swp_cut fun K2 hK2 _ _ => ?_
          conv => whnf
          refine hK2 _ _ ?_
          clear hK2
          conv => whnf
          refine .inr (loop_invC (gH A _) (CgI p cap0 (.int .u8 dd :: bcsL k0 k1 k2 k3)) ?_ ?_)
          · intro k' e' m' hI
            obtain ⟨j, t0, N, hj33, rfl, rfl, rfl⟩ := hI
            conv => whnf
            cases hlt : decide ((j : Int) < 33) with
            | true =>
              have hj : j < 33 := by have := of_decide_eq_true hlt; omega
              have hj' : j < (Sc.int .u8 dd :: bcsL k0 k1 k2 k3).length := hj
              obtain ⟨z, hz, _⟩ := isB_cons hd (isB_bcsL k0 k1 k2 k3) _ (List.getElem_mem hj')
              have tk := take1 (l := Sc.int .u8 dd :: bcsL k0 k1 k2 k3) (j := j) hj'
              have hel : (ones (Sc.int .u8 dd :: bcsL k0 k1 k2 k3))[j]? = some [(Sc.int .u8 dd :: bcsL k0 k1 k2 k3)[j]'hj'] := ones_get (List.getElem?_eq_getElem hj')
              rw [hz] at tk hel
              subst ha
              conv => whnf
              have hge : decide ((j : Int) ≥ ((33 : Nat) : Int)) = false := decide_eq_false (by omega)
              rw [hge]
              conv => whnf
              rw [dec_idx (n := 33) hj]
              conv => whnf
              conv in (takeAt _ _ _) => change takeAt (Sc.int .u8 dd :: bcsL k0 k1 k2 k3) (0 + j * 1) 1; rw [tk]
              conv => whnf
              rw [dec_idx (n := 33) hj]
              conv => whnf
              refine ⟨_, ERead_l (Sl.one (i := j) hs hel), ?_⟩
              conv => whnf
              have hzz : (z != z) = false := by simp
              rw [hzz]
              conv => whnf
              refine ⟨33 - (j + 1), F0, by omega, fun c N1 _ _ => ⟨_, _, wk_of (by (repeat' apply And.intro) <;> first | trivial | exact ⟨_, rfl, tv_inc (n := 33) hj (by omega), rfl⟩ | exact ⟨_, rfl, rfl, rfl⟩ | exact ⟨_, rfl, st.2.1 _ _, st.1 _⟩) (by (repeat' apply And.intro) <;> first | trivial | rfl | exact ⟨_, rfl, rfl, rfl⟩) (by exact Nat.le_of_ble_eq_true rfl) (by exact Nat.le_of_ble_eq_true rfl), ⟨j + 1, t0, N1, hj, rfl, rfl, rfl⟩⟩⟩
            | false =>
              have : j = 33 := by have := of_decide_eq_false hlt; omega
              subst this
              conv => whnf
              refine hK _ _ ?_
              clear hK hR
              conv => whnf
              intro c N2 _ _
              rfl
          · refine ⟨33, F0, fun c N1 _ _ => ⟨_, _, wk_of (by (repeat' apply And.intro) <;> first | trivial | exact ⟨_, rfl, rfl, rfl⟩ | exact ⟨_, rfl, st.2.1 _ _, st.1 _⟩) (by (repeat' apply And.intro) <;> first | trivial | rfl | exact ⟨_, rfl, rfl, rfl⟩) (by exact Nat.le_of_ble_eq_true rfl) (by exact Nat.le_of_ble_eq_true rfl), ⟨0, _, N1, by omega, rfl, rfl, rfl⟩⟩⟩
  · refine ⟨33, F0, ren0, ren0_ok _, fun c N1 _ _ => ⟨_, _, wkR_of (by (repeat' apply And.intro) <;> first | trivial | exact ⟨_, rfl, rfl, rfl⟩ | exact ⟨_, rfl, hpn.rn _ _ _ _ _, st.1 _⟩) (by (repeat' apply And.intro) <;> first | trivial | rfl | exact ⟨_, rfl, rfl, rfl⟩) (by exact Nat.le_of_ble_eq_true rfl), ⟨0, _, _, N1, by omega, rfl, .inl ⟨rfl, rfl, rfl⟩⟩⟩⟩

end Go.Hv
