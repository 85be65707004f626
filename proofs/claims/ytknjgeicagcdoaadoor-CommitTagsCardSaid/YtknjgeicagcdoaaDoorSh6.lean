import Derived.Test.YtknjgeicagcdoaaDoorSh4
import Derived.Test.YtknjgeicagcdoaaDoorSh5
namespace Go.Hv
open Go.Ev

/-! ## What a Hash holds that has taken some bytes -/

theorem runP_app (Y X : List Int) (s : S8) : ∀ j, 64 * j ≤ Y.length → runP (Y ++ X) s j = runP Y s j
  | 0, _ => rfl
  | j + 1, h => by
    have ih := runP_app Y X s j (by omega)
    show mix (fun i => (((Y ++ X).drop (64 * j)).take 64).getD i 0) (runP (Y ++ X) s j) = mix (fun i => ((Y.drop (64 * j)).take 64).getD i 0) (runP Y s j)
    rw [ih, List.drop_append_of_le_length (by omega), List.take_append_of_le_length (by rw [List.length_drop]; omega)]

theorem runP_add (Z : List Int) (s : S8) (q : Nat) : ∀ j, runP Z s (q + j) = runP (Z.drop (64 * q)) (runP Z s q) j
  | 0 => rfl
  | j + 1 => by
    have ih := runP_add Z s q j
    show mix (fun i => ((Z.drop (64 * (q + j))).take 64).getD i 0) (runP Z s (q + j)) = mix (fun i => (((Z.drop (64 * q)).drop (64 * j)).take 64).getD i 0) (runP (Z.drop (64 * q)) (runP Z s q) j)
    rw [ih, List.drop_drop, show 64 * q + 64 * j = 64 * (q + j) by omega]

def stateOf (Y : List Int) : S8 := runP Y begun8 (Y.length / 64)
def restOf (Y : List Int) : List Int := Y.drop (64 * (Y.length / 64))
theorem restOf_len (Y : List Int) : (restOf Y).length = Y.length % 64 := by
  unfold restOf
  rw [List.length_drop]
  omega

/-- The digest of some bytes. -/
def shaD (Y : List Int) : List Int := dgl (finS (stateOf Y) (restOf Y) Y.length)
theorem shaD_len (Y : List Int) : (shaD Y).length = 32 := dgl_len _

theorem state_nil {Y X : List Int} (h : Y.length % 64 = 0) : runP X (stateOf Y) (X.length / 64) = stateOf (Y ++ X) ∧ X.drop (64 * (X.length / 64)) = restOf (Y ++ X) := by
  have hq : Y.length = 64 * (Y.length / 64) := by omega
  have hl : (Y ++ X).length / 64 = Y.length / 64 + X.length / 64 := by rw [List.length_append]; omega
  have hd : (Y ++ X).drop (64 * (Y.length / 64)) = X := by rw [← hq]; exact List.drop_left
  unfold stateOf restOf
  rw [hl, runP_add, hd, runP_app Y X begun8 _ (by omega)]
  refine ⟨rfl, ?_⟩
  rw [show 64 * (Y.length / 64 + X.length / 64) = 64 * (Y.length / 64) + 64 * (X.length / 64) by omega, ← List.drop_drop, hd]

theorem state_less {Y X : List Int} (h : Y.length % 64 + X.length < 64) : stateOf (Y ++ X) = stateOf Y ∧ restOf (Y ++ X) = restOf Y ++ X := by
  have hl : (Y ++ X).length / 64 = Y.length / 64 := by rw [List.length_append]; omega
  unfold stateOf restOf
  rw [hl, runP_app Y X begun8 _ (by omega)]
  exact ⟨rfl, List.drop_append_of_le_length (by omega)⟩

theorem state_more {Y X : List Int} (h : 64 ≤ Y.length % 64 + X.length) (X' : List Int) (hX' : X' = X.drop (64 - Y.length % 64)) :
    runP X' (runP (restOf Y ++ X) (stateOf Y) 1) (X'.length / 64) = stateOf (Y ++ X) ∧ X'.drop (64 * (X'.length / 64)) = restOf (Y ++ X) ∧ X'.length % 64 = (Y ++ X).length % 64 := by
  have hr := restOf_len Y
  have hXl : X'.length = X.length - (64 - Y.length % 64) := by rw [hX', List.length_drop]
  have hl : (Y ++ X).length / 64 = Y.length / 64 + (1 + X'.length / 64) := by rw [List.length_append]; omega
  have hd : (Y ++ X).drop (64 * (Y.length / 64)) = restOf Y ++ X := List.drop_append_of_le_length (by omega)
  have hd2 : (restOf Y ++ X).drop (64 * 1) = X' := by
    rw [hX', List.drop_append, hr, List.drop_eq_nil_of_le (by rw [hr]; omega), List.nil_append]
  refine ⟨?_, ?_, by rw [List.length_append]; omega⟩
  · unfold stateOf
    rw [hl, runP_add, hd, runP_app Y X begun8 _ (by omega), runP_add, hd2]
  · unfold restOf
    rw [hl, show 64 * (Y.length / 64 + (1 + X'.length / 64)) = 64 * (Y.length / 64) + (64 * 1 + 64 * (X'.length / 64)) by omega, ← List.drop_drop, hd, ← List.drop_drop, hd2]

/-! ## What is lent, read -/

theorem lent_one {c : Con} {B : Base} {bs : Mem} {b i : Nat} {x : Blk} {s : Sc} (hL : Lent c B bs) (hx : nth bs b = some x) (hs : (extL c x.cells)[i]? = some s) (hc : s.closed 0 = true) :
    ERead B false 1 ((⟨c.ι b, 0, none⟩ : Addr).add i) (.one s) := by
  obtain ⟨junk, h⟩ := hL b x hx
  have hlt := (List.getElem?_eq_some_iff.1 hs).1
  refine ⟨s, ?_, hc, rfl⟩
  rw [addr_off, Nat.zero_add]
  refine ⟨_, _, _, h, rfl, ?_⟩
  simp only [List.getElem?_toArray]
  rw [List.getElem?_append_left (by simpa using hlt), List.getElem?_map, hs]
  rfl

theorem lent_agg {c : Con} {B : Base} {bs : Mem} {b o size : Nat} {x : Blk} {l : List Sc} (hL : Lent c B bs) (hx : nth bs b = some x) (hlen : l.length = size) (hc : closedL 0 l = true) (hs : ∀ i s, l[i]? = some s → (extL c x.cells)[o + i]? = some s) :
    ERead B true size ((⟨c.ι b, 0, none⟩ : Addr).add o) (.agg l) := by
  obtain ⟨junk, h⟩ := hL b x hx
  refine ⟨l, hlen, fun i s hi => ?_, hc, rfl⟩
  have hg := hs i s hi
  have hlt := (List.getElem?_eq_some_iff.1 hg).1
  rw [addr_off, Nat.zero_add, addr_off]
  refine ⟨_, _, _, h, rfl, ?_⟩
  simp only [List.getElem?_toArray]
  rw [List.getElem?_append_left (by simpa using hlt), List.getElem?_map, hg]
  rfl

/-- Sum of a Hash that is lent. -/
theorem sum_lent {c : Con} {A B : Base} {bs : Mem} {b n t cap : Nat} {s : S8} {r r' : Sc} {R : List Int} (hTb : Tab B) (hL : Lent c B bs) (hx : nth bs b = some ⟨hcells s r n, t, 0, false⟩) (hr : Sc.ext c r = r') {q : Option SP} (hr' : r' = .slice q R.length cap)
    (hs : Sl B 1 (.one r') (ones (u8s R))) (hR : R.length < 64) : HC PG B f_sha_Hash_Sum [.one (.ptr (some (.ext ⟨c.ι b, 0, none⟩)))] fun v _ => v = .agg (u8s (dgl (finS s R n))) := by
  subst hr'
  refine sum_hc hTb (lent_agg hL hx rfl rfl fun i x hi => ?_) (lent_one hL hx (i := 8) ?_ (by have := hs.stable.1 0; exact this)) (lent_one hL hx (i := 9) rfl rfl) hs hR
  · have hi8 : i < 8 := (List.getElem?_eq_some_iff.1 hi).1
    rw [Nat.zero_add]
    have : ∀ i, i < 8 → i = 0 ∨ i = 1 ∨ i = 2 ∨ i = 3 ∨ i = 4 ∨ i = 5 ∨ i = 6 ∨ i = 7 := by omega
    rcases this i hi8 with rfl | rfl | rfl | rfl | rfl | rfl | rfl | rfl <;> exact hi
  · rw [← hr]
    rfl

theorem WrK_ne (X : List Int) (s : S8) (n : Nat) : ∃ v m', WrK X s n v m' := by
  by_cases h : X.length % 64 = 0
  · exact ⟨_, _, rfl, .inl ⟨h, 0, B0, rfl⟩⟩
  · exact ⟨_, _, rfl, .inr ⟨h, 0, X.length % 64, B0, Nat.le_refl _, rfl⟩⟩

theorem WrKL_ne (X : List Int) (s : S8) (n : Nat) : ∃ v m', WrKL X s n v m' := by
  by_cases h : X.length % 64 = 0
  · exact ⟨_, _, rfl, .inl ⟨h, 0, B0, rfl⟩⟩
  · exact ⟨_, _, rfl, .inr ⟨h, 0, X.length % 64, B0, Nat.le_refl _, rfl⟩⟩

theorem WrK2_ne (R X : List Int) (s : S8) (n : Nat) : ∃ v m', WrK2 R X s n v m' := by
  by_cases h : R.length + X.length < 64
  · exact ⟨_, _, .inl ⟨h, rfl, 0, R.length + X.length, B0, Nat.le_refl _, rfl⟩⟩
  · obtain ⟨v, m', hw⟩ := WrKL_ne (X.drop (64 - R.length)) (runP (R ++ X) s 1) n
    exact ⟨v, m', .inr ⟨by omega, hw⟩⟩

theorem one_ms {b : Nat} {bs : Mem} {x : Blk} (hx : nth bs b = some x) (hc : ∀ c ρ F, rnL F c ρ x.cells = x.cells) : ∀ (c : Con) (i b' : Nat), [b][i]? = some b' → nth [some x] i = rnB (keepF [b]) c (inR [b]) (nth bs b') := fun c i b' h => by
  match i, h with
  | 0, h =>
    simp only [List.getElem?_cons_zero, Option.some.injEq] at h
    subst h
    rw [hx]
    simp only [rnB, nth, hc]
  | i + 1, h => simp at h

theorem hcells_rn (s : S8) (n : Nat) (F : Nat → Bool) (c : Con) (ρ : Ren) : rnL F c ρ (hcells s (.slice none 0 0) n) = hcells s (.slice none 0 0) n := rfl

theorem Sl.rn' {B : Base} {es : Nat} {s : TV} {L : List (List Sc)} (h : Sl B es s L) (F : Nat → Bool) (c : Con) (ρ : Ren) : TV.rn F c ρ s = s := by
  obtain ⟨p, cap, rfl, h2, h3, h4⟩ := h
  match p, h4 with
  | none, _ => rfl
  | some (.ext a), _ => rfl

theorem sl_none {B : Base} : Sl B 1 (.one (.slice none 0 0)) (ones (u8s [])) := ⟨none, 0, rfl, ⟨Nat.le_refl _, by simp [ones]⟩, fun x hx => (by cases hx), rfl, rfl⟩

theorem of_ok : ∀ A, okCode (HHo A fun _ => none) F_sha_Of.ntmps (bodyOf F_sha_Of) = true := fun _ => by kernel_rfl

set_option maxRecDepth 100000 in
theorem of_hc {A : Base} {p : Option SP} {cap : Nat} {X : List Int} (hTb : Tab A) (hs : Sl A 1 (.one (.slice p X.length cap)) (ones (u8s X))) (hX : X.length ≤ 1000000000000) :
    HC PG A f_sha_Of [.one (.slice p X.length cap)] fun v _ => v = .agg (u8s (shaD X)) := by
  refine hc_start (fun _ => none) h_sha_Of rfl (by kernel_rfl) (of_ok A) (closedTs_iff.2 fun v hv => by
    simp only [List.mem_singleton] at hv
    subst hv
    exact hs.stable.1 0) ?_
  have hs0 : stateOf [] = begun8 := rfl
  refine swp_cut fun K hK hR _ => ?_
  conv => whnf
  refine hK _ _ ?_
  clear hK hR
  refine swp_cut fun K hK hR _ => ?_
  refine aops_step fun T S hT hS => ?_
  conv => whnf
  refine ⟨_, CALL.lend (ms := []) [] (by simp) (by simp) rfl (new_call (A := A)).1 (fun _ i b h => by simp at h) (fun c B _ _ => new_call), ⟨_, _, _, _, ⟨rfl, 0, rfl⟩, rfl, rfl⟩, ?_⟩
  rintro v m' ⟨v0, ms', ⟨rfl, t, rfl⟩, rfl, rfl⟩
  show T (.one (.ptr (some (.loc 1 0)))) ⟨[some ⟨List.replicate 32 (.int .u8 0), _, 0, false⟩, some ⟨hcells begun8 (.slice none 0 0) 0, t, 0, false⟩], _⟩
  refine hT _ _ ?_
  refine aops_step fun T S hT hS => ?_
  conv => whnf
  refine hT _ _ ?_
  refine aops_end ?_
  refine hK _ _ ?_
  clear hK hR
  refine swp_cut fun K hK hR _ => ?_
  iterate 2 (refine aops_step fun T S hT hS => ?_; (conv => whnf); refine hT _ _ ?_)
  refine aops_step fun T S hT hS => ?_
  conv => whnf
  refine ⟨_, CALL.lend (ms := [some ⟨hcells begun8 (.slice none 0 0) 0, t, 0, false⟩]) [1] (by simp) (fun b hb => by
      simp only [List.mem_singleton] at hb
      subst hb
      exact Nat.le_refl 2) rfl (write_nil (t := 0) hTb hs (n := 0) (s := begun8) (by omega) hX).1 (one_ms rfl fun c ρ F => hcells_rn _ _ F c ρ) (fun c B hB hF => by
      show CALL PG B f_sha_Hash_Write [.one (.ptr (some (.loc 0 0))), TV.rn (keepF [1]) c (inR [1]) (.one (.slice p X.length cap))] _ _
      rw [hs.rn']
      exact write_nil (ERead_le (fun r o h => hB r o (.inl h)) hTb) (hs.mono (fun r o h => hB r o (.inl h))) (by omega) hX), (by
      obtain ⟨v, m', h⟩ := WrK_ne X begun8 (0 + X.length)
      exact ⟨_, _, v, m', h, rfl, rfl⟩), ?_⟩
  rintro v m' ⟨v0, ms', ⟨rfl, hcase⟩, rfl, rfl⟩
  rcases hcase with ⟨h0, t', N', rfl⟩ | ⟨h0, t', cap', N', hcap', rfl⟩
  · show T (.tup []) ⟨[some ⟨List.replicate 32 (.int .u8 0), _, 0, false⟩, some ⟨hcells (stateOf X) (.slice none 0 0) (0 + X.length), t', 0, false⟩], _⟩
    rw [Nat.zero_add]
    have hrest : restOf X = [] := List.eq_nil_of_length_eq_zero (by rw [restOf_len]; exact h0)
    refine hT _ _ ?_
    refine aops_end ?_
    refine hK _ _ ?_
    clear hK hR
    refine swp_cut fun K hK hR _ => ?_
    refine aops_step fun T S hT hS => ?_
    conv => whnf
    refine hT _ _ ?_
    refine aops_step fun T S hT hS => ?_
    conv => whnf
    refine ⟨fun v _ => v = .agg (u8s (shaD X)), fun c B hB hL => by
      have := sum_lent (A := A) (b := 1) (ERead_le (fun r o h => hB r o (.inl h)) hTb) hL rfl (r := .slice none 0 0) rfl (q := none) (cap := 0) rfl sl_none (by decide)
      rw [← hrest] at this
      exact this, ⟨.agg (u8s (shaD X)), B0, ints_cl .u8 _ 0, rfl⟩, ?_⟩
    rintro v N1 _ rfl N2 _
    refine hT _ _ ?_
    refine aops_step fun T S hT hS => ?_
    conv => whnf
    refine hT _ _ ?_
    refine aops_end ?_
    refine hK _ _ ?_
    clear hK hR
    conv => whnf
    intro c N2 _ _
    rfl
  · show T (.tup []) ⟨[some ⟨List.replicate 32 (.int .u8 0), _, 0, false⟩, some ⟨hcells (stateOf X) (.slice (some (.loc 2 0)) (X.length % 64) cap') (0 + X.length), t', 0, false⟩, some ⟨rnL F0 Con0 (outR [1] 2) (u8s (restOf X)), t_uint8, cap' * 1, true⟩], _⟩
    rw [Nat.zero_add, rnL_id (ints_cl .u8 _ 0)]
    refine hT _ _ ?_
    refine aops_end ?_
    refine hK _ _ ?_
    clear hK hR
    refine swp_cut fun K hK hR _ => ?_
    refine aops_step fun T S hT hS => ?_
    conv => whnf
    refine hT _ _ ?_
    refine aops_step fun T S hT hS => ?_
    conv => whnf
    have hrl := restOf_len X
    rw [← hrl] at hcap' ⊢
    refine ⟨fun v _ => v = .agg (u8s (shaD X)), fun c B hB hL => sum_lent (A := A) (b := 1) (ERead_le (fun r o h => hB r o (.inl h)) hTb) hL rfl (r := .slice (some (.loc 2 0)) (restOf X).length cap') rfl (q := some (.ext ⟨c.ι 2, 0, none⟩)) (cap := cap') rfl
      (sl_lent (b := 2) (o := 0) (L := ones (u8s (restOf X))) (post := []) hL rfl (ints_cl _ _ 0) (by rw [ones_flat]; exact (List.append_nil _).symm) (by rw [u8s_len]) (by rw [u8s_len]; exact hcap') (by rw [u8s_len]; omega) (ones_es _)) (by omega), ⟨.agg (u8s (shaD X)), B0, ints_cl .u8 _ 0, rfl⟩, ?_⟩
    rintro v N1 _ rfl N2 _
    refine hT _ _ ?_
    refine aops_step fun T S hT hS => ?_
    conv => whnf
    refine hT _ _ ?_
    refine aops_end ?_
    refine hK _ _ ?_
    clear hK hR
    conv => whnf
    intro c N2 _ _
    rfl

end Go.Hv
