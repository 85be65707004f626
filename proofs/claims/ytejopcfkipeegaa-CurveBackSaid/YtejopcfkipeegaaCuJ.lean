import Derived.Test.YtejopcfkipeegaaCuI
namespace Go.Hv
open Go.Ev Go.Ec

theorem isB_split {L : List Sc} (hB : isB L) (hn : L.length = 33) : ∃ c l0 l1 l2 l3, (0 ≤ c ∧ c < 256) ∧ InU l0 ∧ InU l1 ∧ InU l2 ∧ InU l3 ∧ L = .int .u8 c :: bcsL l0 l1 l2 l3 := by
  match L, hn with
  | s :: L, hn =>
    obtain ⟨c, rfl, hc⟩ := hB s (by simp)
    have h32 : L.length = 32 := by simpa using hn
    have hL : isB L := fun s hs => hB s (by simp [hs])
    obtain ⟨l0, l1, l2, l3, h0, h1, h2, h3, e⟩ := bytes_of (l := L.map scI) (by rw [List.length_map]; exact h32) (isB_lt hL)
    refine ⟨c, l0, l1, l2, l3, hc, h0, h1, h2, h3, ?_⟩
    rw [← e]
    have : ∀ {l : List Sc}, isB l → (l.map scI).map (Sc.int .u8) = l := by
      intro l
      induction l with
      | nil => intro _; rfl
      | cons s l ih =>
        intro h
        obtain ⟨z, rfl, _⟩ := h s (by simp)
        have := ih fun s hs => h s (by simp [hs])
        simp only [List.map_cons, this]
        rfl
    rw [this hL]

/-- A slice that came in, or nil. -/
def SlN (p : Option SP) : Prop := ∀ b o, p ≠ some (.loc b o)

theorem SlN.stable {p : Option SP} (h : SlN p) (n cap : Nat) : (∀ k, (TV.one (.slice p n cap)).closed k = true) ∧ (∀ F c, TV.one (.slice p n cap) = TV.fz F c (.one (.slice p n cap))) ∧ (∀ c, TV.ext c (.one (.slice p n cap)) = .one (.slice p n cap)) := by
  match p, h with
  | none, _ => exact ⟨fun _ => rfl, fun _ _ => rfl, fun _ => rfl⟩
  | some (.ext a), _ => exact ⟨fun _ => rfl, fun _ _ => rfl, fun _ => rfl⟩
  | some (.loc b o), h => exact absurd rfl (h b o)

theorem SlN.hp {p : Option SP} (h : SlN p) (n cap : Nat) : closedTs 0 [TV.one (.slice p n cap)] = true :=
  closedTs_iff.2 fun v hv => by simp only [List.mem_singleton] at hv; subst hv; exact (h.stable n cap).1 0

theorem cDecode_n {A : Base} {p : Option SP} {n cap : Nat} (hn : n ≠ 33) (hs : SlN p) : HC PG A f_curve_Decode [.one (.slice p n cap)] fun v _ => v = .tup [.agg (ptC 0 0 true), .one (.bool false)] := by
  refine hc_start (fun _ => none) h_curve_Decode rfl (by kernel_rfl) (by kernel_rfl) (hs.hp n cap) ?_
  have c0 := zero_fn
  have hd : (((n : Nat) : Int) != 33) = true := by
    simp only [bne_iff_ne, ne_eq]
    omega
  refine swp_cut fun K hK hR _ => ?_
  conv => whnf
  refine hK _ _ ?_
  clear hK hR
  refine swp_cut fun K1 hK1 hR1 _ => swp_cut fun K hK hR _ => ?_
  conv => whnf
  refine hK _ _ ?_
  clear hK hR
  rw [hd]
  conv => whnf
  refine ⟨_, c0, rfl, ?_⟩
  conv => whnf
  refine hR1 _ _ ?_
  conv => whnf
  intro c N2 _ _
  rfl

theorem r5Decode_n {A : Base} {p : Option SP} {n cap : Nat} (hn : n ≠ 33) (hs : SlN p) : HC PG A f_ref05_Decode [.one (.slice p n cap)] fun v _ => v = .tup [.agg (ptC 0 0 true), .one (.bool false)] := by
  refine hc_start ordDec h_ref05_Decode rfl (by kernel_rfl) (by kernel_rfl) (hs.hp n cap) ?_
  have c0 := r5zero_fn
  have hd : (((n : Nat) : Int) != 33) = true := by
    simp only [bne_iff_ne, ne_eq]
    omega
  refine swp_cut fun K hK hR _ => ?_
  conv => whnf
  refine hK _ _ ?_
  clear hK hR
  refine swp_cut fun K1 hK1 hR1 _ => swp_cut fun K hK hR _ => ?_
  conv => whnf
  refine hK _ _ ?_
  clear hK hR
  rw [hd]
  conv => whnf
  refine ⟨_, c0, rfl, ?_⟩
  conv => whnf
  refine hR1 _ _ ?_
  conv => whnf
  intro c N2 _ _
  rfl

theorem dec_both {A : Base} {p : Option SP} {n cap : Nat} (hp : SlN p) (h33 : n = 33 → ∃ L, isB L ∧ L.length = 33 ∧ Sl A 1 (.one (.slice p n cap)) (ones L)) : ∃ x' y' b' ok', ∀ B, Base.le A B → (HC PG B f_curve_Decode [.one (.slice p n cap)] fun v _ => v = .tup [.agg (ptC x' y' b'), .one (.bool ok')]) ∧ (HC PG B f_ref05_Decode [.one (.slice p n cap)] fun v _ => v = .tup [.agg (ptC x' y' b'), .one (.bool ok')]) := by
  by_cases hn' : n = 33
  · obtain ⟨L, hB, hn, hs⟩ := h33 hn'
    obtain ⟨c, l0, l1, l2, l3, hc, h0, h1, h2, h3, rfl⟩ := isB_split hB hn
    have : ∃ x' y' b' ok', decV c (val l0 l1 l2 l3) = .tup [.agg (ptC x' y' b'), .one (.bool ok')] := by
      unfold decV decR
      split
      · exact ⟨0, 0, true, true, rfl⟩
      · split
        · split
          · exact ⟨_, _, false, true, rfl⟩
          · split
            · obtain ⟨x', y', b', _, _, ep, _, _⟩ := pt_nm (neg (tkn (val l0 l1 l2 l3) (liftR (val l0 l1 l2 l3)).1 false)) (neg_on _ (tkn_on _ _ _))
              rw [ptL_of] at ep
              refine ⟨x', y', b', true, ?_⟩
              rw [TV.agg.inj ep]
            · exact ⟨0, 0, true, false, rfl⟩
        · exact ⟨0, 0, true, false, rfl⟩
    obtain ⟨x', y', b', ok', e⟩ := this
    refine ⟨x', y', b', ok', fun B hB => ?_⟩
    have h1' := cDecode_33 (c := c) h0 h1 h2 h3 (hs.mono hB)
    have h2' := r5Decode_V hc h0 h1 h2 h3 (hs.mono hB)
    rw [e] at h1' h2'
    exact ⟨h1', h2'⟩
  · exact ⟨0, 0, true, false, fun B _ => ⟨cDecode_n hn' hp, r5Decode_n hn' hp⟩⟩

def CdE (p : Option SP) (n cap0 j : Nat) (cap : Nat) : Env := [(16, .one (.int .i64 (j : Int))), (6, .one (.slice (some (.loc 2 0)) 33 cap)), (5, .one (.ptr (some (.loc 1 0)))), (4, .one (.bool false)), (2, .one (.ptr (some (.loc 0 0)))), (1, .one (.slice p n cap0))]

def CdI (p : Option SP) (n cap0 : Nat) (R P : List Sc) (es : Nat) (g : Bool) (cap : Nat) (k : Nat) (e : Env) (m : HM) : Prop :=
  ∃ (j t0 t1 : Nat) (N : Base), j ≤ 33 ∧ k = 33 - j ∧ e = CdE p n cap0 j cap ∧
    m = ⟨[some ⟨P, t0, 0, false⟩, some ⟨R, t1, 0, false⟩, some ⟨R, 5, es, g⟩], N⟩

set_option maxHeartbeats 1000000 in
set_option maxRecDepth 100000 in
theorem lawCurveCodes_hc {A : Base} {p : Option SP} {n cap0 : Nat} {x y : Int} (hx : InW x) (hy : InW y) (b : Bool) (hpn : SlN p) (h33 : n = 33 → ∃ L, isB L ∧ L.length = 33 ∧ Sl A 1 (.one (.slice p n cap0)) (ones L)) : HC PG A f_law05_CurveCodes [ptV x y b, .one (.slice p n cap0)] fun v _ => v = .one (.bool true) := by
  have st := hpn.stable n cap0
  have hp : closedTs 0 [ptV x y b, TV.one (.slice p n cap0)] = true := closedTs_iff.2 fun v hv => by
    simp only [List.mem_cons, List.not_mem_nil, or_false] at hv
    rcases hv with rfl | rfl
    · rfl
    · exact st.1 0
  refine hc_start (fun _ => none) h_law05_CurveCodes rfl (by kernel_rfl) (by kernel_rfl) hp ?_
  have c1 := cEncode_fn (b := b) hx hy
  have a5 := alive5_fn
  have c2 : ∀ B, HCO PG B f_ref05_Encode [ptV x y b] fun n cap k _ => n = 33 ∧ 33 ≤ cap ∧ ∃ es g, k = ⟨encC x y b, 5, es, g⟩ := fun B => r5Encode_hco hx hy
  obtain ⟨c, e0, e1, e2, e3, hc, i0, i1, i2, i3, eE⟩ := isB_split (isB_enc x y b) (encC_len x y b)
  rw [eE] at c1 c2
  have tkE : ∀ {j : Nat}, j < 33 → ∃ z, takeAt (.int .u8 c :: bcsL e0 e1 e2 e3) (0 + j * 1) 1 = some [.int .u8 z] := fun {j} hj => by
    have hj' : j < (Sc.int .u8 c :: bcsL e0 e1 e2 e3).length := hj
    obtain ⟨z, hz, _⟩ := isB_cons hc (isB_bcsL e0 e1 e2 e3) _ (List.getElem_mem hj')
    exact ⟨z, by rw [take1 hj', hz]⟩
  refine swp_cut fun K hK hR _ => ?_
  conv => whnf
  refine hK _ _ ?_
  clear hK hR
  refine swp_cut fun K hK hR _ => ?_
  conv => whnf
  refine ⟨_, c1, rfl, ?_⟩
  conv => whnf
  refine hK _ _ ?_
  clear hK hR
  refine swp_cut fun K hK hR _ => ?_
  conv => whnf
  refine ⟨fun n cap k _ => n = 33 ∧ 33 ≤ cap ∧ ∃ es g, k = ⟨.int .u8 c :: bcsL e0 e1 e2 e3, 5, es, g⟩, fun c B hB hL => c2 B, ⟨33, 33, ⟨.int .u8 c :: bcsL e0 e1 e2 e3, 5, 33, false⟩, B0, rfl, rfl, Nat.le_refl _, 33, false, rfl⟩, ?_⟩
  rintro n1 cap k N' _ ⟨rfl, hcap, es, g, rfl⟩ N1 _
  conv => whnf
  refine hK _ _ ?_
  clear hK hR
  refine swp_cut fun K hK hR _ => ?_
  refine swp_cut fun K2 hK2 _ _ => ?_
  conv => whnf
  refine hK2 _ _ ?_
  clear hK2
  conv => whnf
  refine .inr (loop_invC (gH A _) (CdI p n cap0 (.int .u8 c :: bcsL e0 e1 e2 e3) (ptC x y b) es g cap) ?_ ?_)
  · intro k' e' m' hI
    obtain ⟨j, t0, t1, N, hj33, rfl, rfl, rfl⟩ := hI
    conv => whnf
    cases hlt : decide ((j : Int) < 33) with
    | true =>
      have hj : j < 33 := by have := of_decide_eq_true hlt; omega
      obtain ⟨z, tk⟩ := tkE hj
      conv => whnf
      rw [dec_idx (n := 33) hj]
      conv => whnf
      conv in (takeAt _ _ _) => change takeAt (.int .u8 c :: bcsL e0 e1 e2 e3) (0 + j * 1) 1; rw [tk]
      conv => whnf
      rw [dec_idx (n := 33) hj]
      conv => whnf
      conv in (takeAt _ _ _) => change takeAt (.int .u8 c :: bcsL e0 e1 e2 e3) (0 + j * 1) 1; rw [tk]
      conv => whnf
      have hzz : (z != z) = false := by simp
      rw [hzz]
      conv => whnf
      refine ⟨33 - (j + 1), F0, by omega, fun c N1 _ _ => ⟨_, _, wk_of (by (repeat' apply And.intro) <;> first | trivial | exact ⟨_, rfl, tv_inc (n := 33) hj (by omega), rfl⟩ | exact ⟨_, rfl, rfl, rfl⟩ | exact ⟨_, rfl, st.2.1 _ _, st.1 _⟩) (by (repeat' apply And.intro) <;> first | trivial | rfl | exact ⟨_, rfl, rfl, rfl⟩) (by exact Nat.le_of_ble_eq_true rfl) (by exact Nat.le_of_ble_eq_true rfl), ⟨j + 1, t0, t1, N1, hj, rfl, rfl, rfl⟩⟩⟩
    | false =>
      have : j = 33 := by have := of_decide_eq_false hlt; omega
      subst this
      conv => whnf
      refine hK _ _ ?_
      clear hK hR
      obtain ⟨x', y', b', ok', d⟩ := dec_both hpn h33
      have w := same9 x' y' b'
      have hc1 : ∀ (c : Con) (B : Base), Base.le A B → HC PG B f_curve_Decode [TV.ext c (.one (.slice p n cap0))] fun v _ => v = .tup [.agg (ptC x' y' b'), .one (.bool ok')] := fun c B hB => by rw [st.2.2 c]; exact (d B hB).1
      have hc2 : ∀ (c : Con) (B : Base), Base.le A B → HC PG B f_ref05_Decode [TV.ext c (.one (.slice p n cap0))] fun v _ => v = .tup [.agg (ptC x' y' b'), .one (.bool ok')] := fun c B hB => by rw [st.2.2 c]; exact (d B hB).2
      refine swp_cut fun K hK hR _ => ?_
      conv => whnf
      refine ⟨fun v _ => v = .tup [.agg (ptC x' y' b'), .one (.bool ok')], fun c B hB hL => hc1 c B (fun r o h => hB r o (Or.inl h)), ⟨_, B0, rfl, rfl⟩, ?_⟩
      rintro v N' _ rfl N1 _
      conv => whnf
      refine hK _ _ ?_
      clear hK hR
      refine swp_cut fun K hK hR _ => ?_
      conv => whnf
      refine ⟨fun v _ => v = .tup [.agg (ptC x' y' b'), .one (.bool ok')], fun c B hB hL => hc2 c B (fun r o h => hB r o (Or.inl h)), ⟨_, B0, rfl, rfl⟩, ?_⟩
      rintro v N' _ rfl N1 _
      conv => whnf
      refine hK _ _ ?_
      clear hK hR
      refine swp_cut fun K hK hR _ => ?_
      cases ok'
      all_goals
        repeat (refine aops_step fun T S hT hS => ?_; (conv => whnf); (try rw [w]); first | refine hT _ _ ?_ | refine hS ?_ | (refine ⟨_, a5, rfl, ?_⟩; refine hT _ _ ?_))
        refine aops_end ?_
        refine hK _ _ ?_
        conv => whnf
        intro c N2 _ _
        rfl
  · refine ⟨33, F0, fun c N1 _ _ => ⟨_, _, wk_of (by (repeat' apply And.intro) <;> first | trivial | exact ⟨_, rfl, rfl, rfl⟩ | exact ⟨_, rfl, st.2.1 _ _, st.1 _⟩) (by (repeat' apply And.intro) <;> first | trivial | rfl | exact ⟨_, rfl, rfl, rfl⟩) (by exact Nat.le_of_ble_eq_true rfl) (by exact Nat.le_of_ble_eq_true rfl), ⟨0, _, _, N1, by omega, rfl, rfl, rfl⟩⟩⟩

end Go.Hv
