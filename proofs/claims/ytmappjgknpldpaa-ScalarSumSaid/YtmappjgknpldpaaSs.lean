import Derived.Test.YtmappjgknpldpaaAl4
import Derived.Test.YtmappjgknpldpaaHvR
import Derived.Test.YtmappjgknpldpaaSeg
namespace Go.Hv
open Go.Ev

theorem fold_mod (l : List Int) : ∀ s, (l.foldl (fun s a => (s + a) % nn) s) % nn = (s + l.sum) % nn := by
  induction l with
  | nil => intro s; simp
  | cons x l ih =>
    intro s
    rw [List.foldl_cons, ih, Int.emod_add_emod, List.sum_cons, Int.add_assoc]

theorem sumN_eq (l : List Int) : sumN l = l.sum % nn := by
  have h := fold_mod l 0
  rw [Int.zero_add] at h
  rw [← h]
  rcases List.eq_nil_or_concat l with rfl | ⟨l', x, rfl⟩
  · rfl
  · simp only [sumN, List.concat_eq_append, List.foldl_append, List.foldl_cons, List.foldl_nil, Int.emod_emod]

theorem sum_rev (l : List Int) : l.reverse.sum = l.sum := by
  induction l with
  | nil => rfl
  | cons x l ih => rw [List.reverse_cons, List.sum_append, ih, List.sum_cons, List.sum_cons, List.sum_nil]; omega

theorem sumN_rev (l : List Int) : sumN l.reverse = sumN l := by rw [sumN_eq, sumN_eq, sum_rev]

/-- What stands in 'turned' behind i rounds. -/
def tws (l : List Int) (i : Nat) : List Sc := ((l.take i).reverse.map words).flatten

theorem flat4_len : ∀ l : List Int, (l.map words).flatten.length = l.length * 4
  | [] => rfl
  | x :: l => by
    simp only [List.map_cons, List.flatten_cons, List.length_append, List.length_cons]
    rw [flat4_len l]
    show 4 + _ = _
    omega

theorem flat_cl : ∀ l : List Int, closedL 0 (l.map words).flatten = true := fun l => closedL_iff.2 fun s hs => by
  obtain ⟨y, hy, hs⟩ := List.mem_flatten.1 hs
  obtain ⟨z, _, rfl⟩ := List.mem_map.1 hy
  exact closedL_iff.1 (rfl : closedL 0 (words z) = true) s hs

theorem tws_len {l : List Int} {i : Nat} (h : i ≤ l.length) : (tws l i).length = i * 4 := by
  unfold tws
  rw [flat4_len, List.length_reverse, List.length_take]
  omega

theorem tws_cl (l : List Int) (i : Nat) : closedL 0 (tws l i) = true := flat_cl _

theorem tws_succ {l : List Int} {i : Nat} (h : i < l.length) : tws l (i + 1) = words l[i] ++ tws l i := by
  unfold tws
  rw [List.take_succ_eq_append_getElem h, List.reverse_append]
  rfl

theorem sumN_succ {l : List Int} {i : Nat} (h : i < l.length) : (sumN (l.take i) + l[i]) % nn = sumN (l.take (i + 1)) := by
  simp only [sumN]
  rw [List.take_succ_eq_append_getElem h, List.foldl_append]; rfl

theorem tws_take {l : List Int} {i : Nat} (h : i ≤ l.length) : takeAt (tws l i) 0 (i * 4) = some (tws l i) := by
  have := takeAt_app [] (tws l i) []
  rw [List.append_nil, tws_len h] at this
  exact this

theorem cap_w {n : Nat} (h : n ≤ 4398046510976) : CapOk n 32 := ⟨by omega, by omega⟩

theorem sl_ext {A : Base} {es : Nat} {p : Option SP} {n cap : Nat} {L : List (List Sc)} (h : Sl A es (.one (.slice p n cap)) L) (hL : L ≠ []) : ∃ a, p = some (.ext a) := by
  obtain ⟨p', cap', e1, _, _, h4⟩ := h
  simp only [TV.one.injEq, Sc.slice.injEq] at e1
  obtain ⟨rfl, _, _⟩ := e1
  match p, h4 with
  | none, h4 => exact absurd h4.1 hL
  | some (.ext a), _ => exact ⟨a, rfl⟩

theorem Sl.rn {B : Base} {es : Nat} {s : TV} {L : List (List Sc)} (h : Sl B es s L) (F : Nat → Bool) (c : Con) (ρ : Ren) : TV.rn F c ρ s = s := by
  obtain ⟨p, cap, rfl, h2, h3, h4⟩ := h
  match p, h4 with
  | none, _ => rfl
  | some (.ext a), _ => rfl

def SsE (q : Option SP) (cap n i : Nat) (tu : TV) : Env := [(9, .one (.int .i64 (i : Int))), (8, .one (.int .i64 (n : Int))), (4, tu), (3, .one (.ptr (some (.loc 0 0)))), (2, .one (.bool false)), (0, .one (.slice q n cap))]

def SsI (l : List Int) (q : Option SP) (cap : Nat) (k : Nat) (e : Env) (m : HM) : Prop :=
  ∃ (i t0 : Nat) (N : Base), i ≤ l.length ∧ k = l.length - i ∧
    ((i = 0 ∧ e = SsE q cap l.length 0 (.one (.slice none 0 0)) ∧ m = ⟨[some ⟨words (sumN []), t0, 0, false⟩], N⟩) ∨
      (0 < i ∧ ∃ c1, i ≤ c1 ∧ e = SsE q cap l.length i (.one (.slice (some (.loc 1 0)) i c1)) ∧
        m = ⟨[some ⟨words (sumN (l.take i)), t0, 0, false⟩, some ⟨tws l i, t_api_Scalar, c1 * 4, true⟩], N⟩))

def ordSs : Nat → Option (List Nat)
  | 9 => some [0, 1, 2, 4, 3, 5, 6, 7, 8, 10, 9, 11, 12, 13]
  | _ => none

set_option maxHeartbeats 1000000 in
set_option maxRecDepth 100000 in
theorem lawScalarSum_hc {A : Base} {q : Option SP} {cap : Nat} {l : List Int} (hl : ∀ x ∈ l, InW x) (hs : Sl A 4 (.one (.slice q l.length cap)) (l.map words)) (hb : l.length ≤ 4398046510976) :
    HC PG A f_law04_ScalarSum [.one (.slice q l.length cap)] fun v _ => v = .one (.bool true) := by
  obtain ⟨g1, g2, g3⟩ := hs.stable
  have hp : closedTs 0 [TV.one (.slice q l.length cap)] = true := closedTs_iff.2 fun v hv => by simp only [List.mem_singleton] at hv; subst hv; exact g1 0
  refine hc_start ordSs h_law04_ScalarSum rfl (by kernel_rfl) (by kernel_rfl) hp ?_
  have o0 := scOf_fn (n := 0) ⟨by omega, by omega⟩
  refine swp_cut fun K hK hR _ => ?_
  conv => whnf
  refine hK _ _ ?_
  clear hK hR
  refine swp_cut fun K hK hR _ => ?_
  conv => whnf
  refine ⟨_, o0, rfl, ?_⟩
  conv => whnf
  refine hK _ _ ?_
  clear hK hR
  refine swp_cut fun K hK hR _ => ?_
  conv => whnf
  refine hK _ _ ?_
  clear hK hR
  refine swp_cut fun K hK hR _ => ?_
  conv => whnf
  refine .inr (loop_invR (gH A _) (SsI l q cap) ?_ ?_)
  · intro k' e' m' hI
    obtain ⟨i, t0, N, hin, rfl, hcase⟩ := hI
    have hrn : ∀ F c ρ, TV.one (.slice q l.length cap) = TV.rn F c ρ (.one (.slice q l.length cap)) := fun F c ρ => (hs.rn F c ρ).symm
    rcases hcase with ⟨rfl, rfl, rfl⟩ | ⟨hi0, c1, hc1', rfl, rfl⟩
    · conv => whnf
      cases hlt : decide ((0 : Int) < (l.length : Int)) with
      | true =>
        have hi : 0 < l.length := by have := of_decide_eq_true hlt; omega
        obtain ⟨a, ha⟩ := sl_ext hs (fun h => by rw [← List.length_eq_zero_iff, List.length_map] at h; omega)
        have hget : (l.map words)[0]? = some (words l[0]) := by simp [hi]
        have hadd := scAdd_fn (sumN_in (l.take 0)) (hl _ (List.getElem_mem hi))
        rw [sumN_succ hi] at hadd
        subst ha
        conv => whnf
        rw [dec_idx hi]
        conv => whnf
        refine ⟨_, ERead_l (hs.agg (i := 0) hget), ?_⟩
        conv => whnf
        refine ⟨_, hadd, rfl, ?_⟩
        conv => whnf
        rw [dec_idx hi]
        conv => whnf
        refine ⟨_, ERead_l (hs.agg (i := 0) hget), ?_⟩
        conv => whnf
        refine ⟨[], rfl, rfl, rfl, ?_⟩
        conv => whnf
        refine ⟨rfl, Nat.le_refl _, rfl, rfl, cap_w (by omega), fun cap' hcap' => ?_⟩
        conv => whnf
        have hblk : ∀ (c : Con) (ρ : Ren), (⟨tws l 1, t_api_Scalar, cap' * 4, true⟩ : Blk) = ⟨rnL F0 c ρ (words l[0] ++ []), t_api_Scalar, cap' * 4, true⟩ := fun c ρ => by
          rw [tws_succ hi, rnL_id (by rw [List.append_nil]; rfl)]
          rfl
        refine ⟨l.length - 1, F0, tp 1 2, by omega, tp_ok (by exact Nat.le_of_ble_eq_true rfl) (by exact Nat.le_of_ble_eq_true rfl), fun c N1 _ _ => ⟨_, _, wkR_of (by (repeat' apply And.intro) <;> first | trivial | exact ⟨_, rfl, tv_inc (n := l.length) hi (by omega), rfl⟩ | exact ⟨_, rfl, rfl, rfl⟩) (by (repeat' apply And.intro) <;> first | trivial | rfl | exact ⟨_, rfl, rfl, rfl⟩ | exact ⟨_, rfl, hblk c (tp 1 2), closedL_mono (Nat.zero_le _) (tws_cl l 1)⟩) (by exact Nat.le_of_ble_eq_true rfl), ⟨1, t0, N1, by omega, rfl, .inr ⟨by omega, cap', hcap', rfl, rfl⟩⟩⟩⟩
      | false =>
        obtain rfl : l = [] := by rw [← List.length_eq_zero_iff]; have := of_decide_eq_false hlt; omega
        conv => whnf
        refine hK _ _ ?_
        clear hK hR
        have hc1 : ∀ (c : Con) (B : Base), Base.le A B → HC PG B f_scalar_Sum [TV.ext c (.one (.slice q ([] : List Int).length cap))] fun v _ => v = W (sumN ([] : List Int)) := fun c B hB => by
          rw [g3 c]
          exact scSum_hc hl (hs.mono hB)
        refine swp_cut fun K hK hR _ => ?_
        conv => whnf
        refine ⟨_, alive4_fn, rfl, ?_⟩
        conv => whnf
        refine ⟨fun v _ => v = W (sumN ([] : List Int)), fun c B hB hL => hc1 c B (fun r o h => hB r o (.inl h)), ⟨_, B0, rfl, rfl⟩, ?_⟩
        rintro v N' _ rfl N1 _
        conv => whnf
        rw [weq_self]
        conv => whnf
        refine ⟨fun v _ => v = W (sumN []), fun c B hB hL => scSum_hc (l := []) (fun x hx => (by cases hx)) ⟨none, 0, rfl, ⟨Nat.le_refl _, Nat.zero_le _⟩, fun x hx => (by cases hx), rfl, rfl⟩, ⟨_, B0, rfl, rfl⟩, ?_⟩
        rintro v N' _ rfl N1 _
        conv => whnf
        refine hK _ _ ?_
        conv => whnf
        intro c N2 _ _
        rfl
    · conv => whnf
      cases hlt : decide ((i : Int) < (l.length : Int)) with
      | true =>
        have hi : i < l.length := by have := of_decide_eq_true hlt; omega
        obtain ⟨a, ha⟩ := sl_ext hs (fun h => by rw [← List.length_eq_zero_iff, List.length_map] at h; omega)
        have hget : (l.map words)[i]? = some (words l[i]) := by simp [hi]
        have hadd := scAdd_fn (sumN_in (l.take i)) (hl _ (List.getElem_mem hi))
        rw [sumN_succ hi] at hadd
        subst ha
        conv => whnf
        rw [dec_idx hi]
        conv => whnf
        refine ⟨_, ERead_l (hs.agg (i := i) hget), ?_⟩
        conv => whnf
        refine ⟨_, hadd, rfl, ?_⟩
        conv => whnf
        rw [dec_idx hi]
        conv => whnf
        refine ⟨_, ERead_l (hs.agg (i := i) hget), ?_⟩
        conv => whnf
        refine ⟨_, tws_take (by omega), (tws_len (by omega)), rfl, ?_⟩
        conv => whnf
        refine ⟨rfl, Nat.le_refl _, rfl, rfl, cap_w (by omega), fun cap' hcap' => ?_⟩
        conv => whnf
        have hblk : ∀ (c : Con) (ρ : Ren), (⟨tws l (i + 1), t_api_Scalar, cap' * 4, true⟩ : Blk) = ⟨rnL F0 c ρ (words l[i] ++ tws l i), t_api_Scalar, cap' * 4, true⟩ := fun c ρ => by
          rw [← tws_succ hi, rnL_id (tws_cl l (i + 1))]
        have hsl : ∀ c, TV.one (.slice (some (.loc 1 0)) (i + 1) cap') = TV.rn F0 c (tp 1 3) (.one (.slice (some (.loc 3 0)) (1 + i) cap')) := fun c => by rw [Nat.add_comm i 1]; rfl
        refine ⟨l.length - (i + 1), F0, tp 1 3, by omega, tp_ok (by exact Nat.le_of_ble_eq_true rfl) (by exact Nat.le_of_ble_eq_true rfl), fun c N1 _ _ => ⟨_, _, wkR_of (by (repeat' apply And.intro) <;> first | trivial | exact ⟨_, rfl, tv_inc (n := l.length) hi (by omega), rfl⟩ | exact ⟨_, rfl, rfl, rfl⟩ | exact ⟨_, rfl, hsl c, rfl⟩) (by (repeat' apply And.intro) <;> first | trivial | rfl | exact ⟨_, rfl, rfl, rfl⟩ | exact ⟨_, rfl, hblk c (tp 1 3), closedL_mono (Nat.zero_le _) (tws_cl l (i + 1))⟩) (by exact Nat.le_of_ble_eq_true rfl), ⟨i + 1, t0, N1, hi, rfl, .inr ⟨by omega, cap', by omega, rfl, rfl⟩⟩⟩⟩
      | false =>
        obtain rfl : i = l.length := by have := of_decide_eq_false hlt; omega
        conv => whnf
        refine hK _ _ ?_
        clear hK hR
        have e1 : sumN (l.take l.length) = sumN l := by rw [List.take_length]
        have e2 : tws l l.length = (l.reverse.map words).flatten := by unfold tws; rw [List.take_length]
        have e3 : (l.reverse.map words).length = l.length := by rw [List.length_map, List.length_reverse]
        rw [e1, e2]
        have hc1 : ∀ (c : Con) (B : Base), Base.le A B → HC PG B f_scalar_Sum [TV.ext c (.one (.slice q l.length cap))] fun v _ => v = W (sumN l) := fun c B hB => by
          rw [g3 c]
          exact scSum_hc hl (hs.mono hB)
        refine swp_cut fun K hK hR _ => ?_
        conv => whnf
        refine ⟨_, alive4_fn, rfl, ?_⟩
        conv => whnf
        refine ⟨fun v _ => v = W (sumN l), fun c B hB hL => hc1 c B (fun r o h => hB r o (.inl h)), ⟨_, B0, rfl, rfl⟩, ?_⟩
        rintro v N' _ rfl N1 _
        conv => whnf
        rw [weq_self]
        conv => whnf
        refine ⟨fun v _ => v = W (sumN l), fun c B hB hL => by
          rw [← sumN_rev l]
          exact scSum_hc (l := l.reverse) (fun x hx => hl x (List.mem_reverse.1 hx)) (sl_lent (b := 1) (o := 0) (L := l.reverse.map words) (post := []) hL rfl (flat_cl _) (List.append_nil _).symm e3.symm (by rw [e3]; exact hc1') (by rw [e3]; omega) (fun y hy => by
            obtain ⟨z, _, rfl⟩ := List.mem_map.1 hy
            rfl)), ⟨_, B0, rfl, rfl⟩, ?_⟩
        rintro v N' _ rfl N1 _
        conv => whnf
        rw [weq_self]
        conv => whnf
        refine hK _ _ ?_
        conv => whnf
        intro c N2 _ _
        rfl
  · refine ⟨l.length, F0, ren0, ren0_ok _, fun c N1 _ _ => ⟨_, _, wkR_of (by (repeat' apply And.intro) <;> first | trivial | exact ⟨_, rfl, rfl, rfl⟩ | exact ⟨_, rfl, (hs.rn _ _ _).symm, g1 _⟩) (by (repeat' apply And.intro) <;> first | trivial | rfl | exact ⟨_, rfl, rfl, rfl⟩) (by exact Nat.le_of_ble_eq_true rfl), ⟨0, _, N1, by omega, rfl, .inl ⟨rfl, rfl, rfl⟩⟩⟩⟩
end Go.Hv
