import Derived.Test.YtknjgeicagcdoaaDoorRf1
namespace Go.Hv
open Go.Ev

/-- A text's bytes. -/
def nmB (nm : ByteArray) : List Int := nm.data.toList.map fun b => (b.toNat : Int)

/-- Some texts that came in. -/
def Texts (A : Base) (v : TV) (Xs : List (List Int)) : Prop :=
  ∃ Ss : List Sc, Sl A 1 v (ones Ss) ∧ Ss.length = Xs.length ∧ ∀ (i : Nat) (S : Sc) (X : List Int), Ss[i]? = some S → Xs[i]? = some X → Sl A 1 (.one S) (ones (u8s X))

theorem Texts.mono {A B : Base} (h : Base.le A B) {v : TV} {Xs : List (List Int)} (ht : Texts A v Xs) : Texts B v Xs := by
  obtain ⟨Ss, h1, h2, h3⟩ := ht
  exact ⟨Ss, h1.mono h, h2, fun i S X hi hx => (h3 i S X hi hx).mono h⟩

/-- What the digest is told of. -/
def tagY (T0 : List Int) (Xs : List (List Int)) (i : Nat) : List Int := T0 ++ T0 ++ (Xs.take i).flatten
def tagD (nm : ByteArray) (Xs : List (List Int)) : List Int := shaD (tagY (shaD (nmB nm)) Xs Xs.length)

theorem tagY_succ (T0 : List Int) {Xs : List (List Int)} {i : Nat} (h : i < Xs.length) : tagY T0 Xs i ++ Xs[i] = tagY T0 Xs (i + 1) := by
  unfold tagY
  rw [List.take_succ_eq_append_getElem h, List.flatten_append, List.append_assoc]
  simp

theorem take_flat_le (Xs : List (List Int)) (i : Nat) : (Xs.take i).flatten.length ≤ Xs.flatten.length := by
  have h := congrArg List.length (congrArg List.flatten (List.take_append_drop i Xs))
  rw [List.flatten_append, List.length_append] at h
  omega

theorem tagY_le (T0 : List Int) (Xs : List (List Int)) (i : Nat) : (tagY T0 Xs i).length ≤ (tagY T0 Xs Xs.length).length := by
  unfold tagY
  rw [List.length_append, List.length_append (bs := (Xs.take Xs.length).flatten), List.take_length]
  have := take_flat_le Xs i
  omega

def TgE (len i : Nat) (q : TV) : Env := [(21, .one (.int .i64 (i : Int))), (20, .one (.int .i64 (len : Int))), (19, q), (6, .one (.ptr (some (.loc 2 0)))), (4, .one (.ptr (some (.loc 0 0))))]

def TgI (T0 : List Int) (Xs : List (List Int)) (q : TV) (k : Nat) (e : Env) (m : HM) : Prop :=
  ∃ (i t0 t1 t2 : Nat) (N : Base), i ≤ Xs.length ∧ k = Xs.length - i ∧ e = TgE Xs.length i q ∧
    (((tagY T0 Xs i).length % 64 = 0 ∧ m = ⟨[some ⟨List.replicate 32 (.int .u8 0), t0, 0, false⟩, some ⟨u8s T0, t1, 0, false⟩, some ⟨hcells (stateOf (tagY T0 Xs i)) (.slice none 0 0) (tagY T0 Xs i).length, t2, 0, false⟩, none, none], N⟩) ∨
     ((tagY T0 Xs i).length % 64 ≠ 0 ∧ ∃ cap, (restOf (tagY T0 Xs i)).length ≤ cap ∧ m = ⟨[some ⟨List.replicate 32 (.int .u8 0), t0, 0, false⟩, some ⟨u8s T0, t1, 0, false⟩, some ⟨hcells (stateOf (tagY T0 Xs i)) (.slice (some (.loc 5 0)) (restOf (tagY T0 Xs i)).length cap) (tagY T0 Xs i).length, t2, 0, false⟩, none, none, some ⟨u8s (restOf (tagY T0 Xs i)), t_uint8, cap * 1, true⟩], N⟩))

/-- A block of bytes that was frozen, as a slice. -/
theorem sl_frozen {F : Nat → Bool} {c : Con} {B : Base} {bs : Mem} {b t : Nat} {X : List Int} (hF : Frozen F c B bs) (hb : F b = true) (hx : nth bs b = some ⟨u8s X, t, 0, false⟩) (hX : X.length ≤ 1000000000000) :
    Sl B 1 (.one (.slice (some (.ext ⟨c.ι b, 0, none⟩)) X.length X.length)) (ones (u8s X)) := by
  have hL : Lent c B (setB (List.replicate (b + 1) none) b (some ⟨u8s X, t, 0, false⟩)) := fun d y hy => by
    by_cases hd : d = b
    · subst hd
      rw [nth_eq, setB_eq, List.getElem?_set_self (by simp)] at hy
      obtain rfl := Option.some.inj (Option.some.inj hy)
      exact hF d _ hb hx
    · rw [nth_setB_ne (Ne.symm hd), nth_eq, List.getElem?_replicate] at hy
      split at hy <;> cases hy
  refine sl_lent (b := b) (o := 0) (x := ⟨u8s X, t, 0, false⟩) (L := ones (u8s X)) (post := []) hL ?_ (ints_cl _ _ 0) (by rw [ones_flat]; exact (List.append_nil _).symm) (by rw [u8s_len]) (by rw [u8s_len]; exact Nat.le_refl _) (by rw [u8s_len]; omega) (ones_es _)
  rw [nth_eq, setB_eq, List.getElem?_set_self (by simp)]

theorem put_all {l v : List Sc} (h : l.length = v.length) : putAt l 0 v = some v := by
  have := putAt_app [] l [] v h
  simpa using this

theorem tag_ok : ∀ A, okCode (HHo A fun _ => none) F_sha_Tagged.ntmps (bodyOf F_sha_Tagged) = true := fun _ => by kernel_rfl

theorem two_ms {b d t cap n : Nat} {s : S8} {R : List Int} {bs : Mem} (hbd : Nat.beq b d = false) (h1 : nth bs b = some ⟨hcells s (.slice (some (.loc d 0)) R.length cap) n, t, 0, false⟩) (h2 : nth bs d = some ⟨u8s R, t_uint8, cap * 1, true⟩) :
    ∀ (c : Con) (i b' : Nat), [b, d][i]? = some b' → nth [some ⟨hcells s (.slice (some (.loc 1 0)) R.length cap) n, t, 0, false⟩, some ⟨u8s R, t_uint8, cap * 1, true⟩] i = rnB (keepF [b, d]) c (inR [b, d]) (nth bs b') := fun c i b' h => by
  have hid : idx [b, d] d = some 1 := by simp [idx, hbd]
  match i, h with
  | 0, h =>
    simp only [List.getElem?_cons_zero, Option.some.injEq] at h
    subst h
    rw [h1]
    have hk : keepF [b, d] d = false := by unfold keepF; rw [hid]
    have ht : (inR [b, d]).to d = 1 := by simp only [inR, hid]
    have : rnL (keepF [b, d]) c (inR [b, d]) (hcells s (.slice (some (.loc d 0)) R.length cap) n) = hcells s (.slice (some (.loc 1 0)) R.length cap) n := by
      simp only [hcells, S8.cells, rnL, List.cons_append, List.nil_append, Sc.rn, SP.rn, hk, ht, w32]
    simp only [rnB, nth, this]
  | 1, h =>
    simp only [List.getElem?_cons_succ, List.getElem?_cons_zero, Option.some.injEq] at h
    subst h
    rw [h2]
    simp only [rnB, nth, rnL_id (ints_cl .u8 R 0)]
  | i + 2, h => simp at h

set_option maxHeartbeats 2000000 in
set_option maxRecDepth 100000 in
theorem tagged_hc {A : Base} {nm : ByteArray} {q : TV} {Xs : List (List Int)} (hTb : Tab A) (hq : Texts A q Xs) (hnm : nm.size ≤ 1000000) (hY : (tagY (shaD (nmB nm)) Xs Xs.length).length ≤ 1000000000000) :
    HC PG A f_sha_Tagged [.one (.str nm), q] fun v _ => v = .agg (u8s (tagD nm Xs)) := by
  obtain ⟨Ss, hSt, hSl, hE⟩ := hq
  obtain ⟨q0, cap0, rfl, hc1, hc2, hc3⟩ := id hSt
  have hlen : (ones Ss).length = Xs.length := by rw [ones_len, hSl]
  rw [hlen] at hSt hc1 ⊢
  refine hc_start (fun _ => none) h_sha_Tagged rfl (by kernel_rfl) (tag_ok A) (closedTs_iff.2 fun v hv => by
    simp only [List.mem_cons, List.not_mem_nil, or_false] at hv
    rcases hv with rfl | rfl
    · rfl
    · exact hSt.stable.1 0) ?_
  unfold tagD
  have hT0l : (shaD (nmB nm)).length = 32 := shaD_len _
  have hnl : (nmB nm).length = nm.size := by
    unfold nmB
    rw [List.length_map, Array.length_toList]
    rfl
  have htb : ∀ {B : Base}, Base.le A B → Tab B := fun h => ERead_le h hTb
  have cof := fun (B : Base) (hB : Base.le A B) (a : Addr) (cap : Nat) (hs : Sl B 1 (.one (.slice (some (.ext a)) (nmB nm).length cap)) (ones (u8s (nmB nm)))) => of_hc (htb hB) hs (by omega)
  generalize hT0 : shaD (nmB nm) = T0 at *
  refine swp_cut fun K hK hR _ => ?_
  conv => whnf
  refine hK _ _ ?_
  clear hK hR
  refine swp_cut fun K hK hR _ => ?_
  refine aops_step fun T S hT hS => ?_
  conv => whnf
  refine hT _ _ ?_
  refine aops_step fun T S hT hS => ?_
  conv => whnf
  refine ⟨by omega, fun a cap N1 hcap ha0 hsp hle hb => ?_⟩
  have hs1 : Sl N1 1 (.one (.slice (some (.ext a)) (nmB nm).length cap)) (ones (u8s (nmB nm))) := by
    refine ⟨some (.ext a), cap, by rw [u8s_len], ⟨by rw [u8s_len]; omega, by rw [u8s_len]; omega⟩, fun x hx => ?_, hsp, fun i x j s hi hj => ?_⟩
    · obtain ⟨s, hs, rfl⟩ := List.mem_map.1 hx
      exact ⟨rfl, closedL_iff.2 fun s' hs' => by
        simp only [List.mem_singleton] at hs'
        subst hs'
        exact closedL_iff.1 (ints_cl .u8 _ 0) _ hs⟩
    · simp only [ones, u8s, nmB, List.getElem?_map, Option.map_eq_some_iff] at hi
      obtain ⟨s', ⟨z, ⟨b, hb', rfl⟩, rfl⟩, rfl⟩ := hi
      have hj0 : j = 0 := by
        have := (List.getElem?_eq_some_iff.1 hj).1
        simpa using this
      subst hj0
      obtain rfl := Option.some.inj hj
      have := hb i b (by simpa using hb')
      rw [Nat.mul_one, Nat.add_zero]
      exact this
  rw [← hnl]
  refine hT _ _ ?_
  refine aops_step fun T S hT hS => ?_
  conv => whnf
  refine ⟨fun v _ => v = .agg (u8s T0), fun c B hB hL => cof B (fun r o h => hB r o (.inl h)) a cap (hs1.mono (fun r o h => hB r o (.inr h))), ⟨.agg (u8s T0), B0, ints_cl .u8 _ 0, rfl⟩, ?_⟩
  rintro v N' _ rfl N2 hN2
  refine hT _ _ ?_
  refine aops_step fun T S hT hS => ?_
  conv => whnf
  refine hT _ _ ?_
  refine aops_step fun T S hT hS => ?_
  conv => whnf
  have hb32 : Nat.beq 32 (u8s T0).length = true := by rw [List.length_map, hT0l]; rfl
  have hp32 : putAt (List.replicate 32 (Sc.int .u8 0)) 0 (u8s T0) = some (u8s T0) := put_all (by rw [List.length_map, hT0l]; rfl)
  conv in (Nat.beq _ _) => change Nat.beq 32 (u8s T0).length; rw [hb32]
  conv => whnf
  conv in (putAt _ _ _) => change putAt (List.replicate 32 (Sc.int .u8 0)) 0 (u8s T0); rw [hp32]
  conv => whnf
  refine hT _ _ ?_
  refine aops_end ?_
  refine hK _ _ ?_
  clear hK hR
  refine swp_cut fun K hK hR _ => ?_
  refine aops_step fun T S hT hS => ?_
  conv => whnf
  refine ⟨_, CALL.lend (ms := []) [] (by simp) (by simp) rfl (new_call (A := A)).1 (fun _ i b h => by simp at h) (fun c B _ _ => new_call), ⟨_, _, _, _, ⟨rfl, 0, rfl⟩, rfl, rfl⟩, ?_⟩
  rintro v m' ⟨v0, ms', ⟨rfl, t, rfl⟩, rfl, rfl⟩
  show T (.one (.ptr (some (.loc 2 0)))) ⟨[some ⟨List.replicate 32 (.int .u8 0), _, 0, false⟩, some ⟨u8s T0, _, 0, false⟩, some ⟨hcells begun8 (.slice none 0 0) 0, t, 0, false⟩], _⟩
  refine hT _ _ ?_
  refine aops_step fun T S hT hS => ?_
  conv => whnf
  refine hT _ _ ?_
  refine aops_end ?_
  refine hK _ _ ?_
  clear hK hR
  refine swp_cut fun K hK hR _ => ?_
  iterate 2 (refine aops_step fun T S hT hS => ?_; (conv => whnf); refine hT _ _ ?_)
  refine aops_step fun T S hT hS => ?_
  conv => whnf
  refine ⟨_, CALL.lend (ms := [some ⟨hcells begun8 (.slice none 0 0) 0, t, 0, false⟩]) [2] (by simp) (fun b hb => by
      simp only [List.mem_singleton] at hb
      subst hb
      exact Nat.le_refl 3) rfl (write_nil (A := A) (p := none) (cap := 0) (X := []) (t := 0) (n := 0) (s := begun8) hTb sl_none (by decide) (by decide)).1 (one_ms rfl fun c ρ F => hcells_rn _ _ F c ρ) (fun c B hB hF => by
      show CALL PG B f_sha_Hash_Write [.one (.ptr (some (.loc 0 0))), .one (.slice (some (.ext ⟨c.ι 1, 0, none⟩)) 32 32)] _ _
      have := sl_frozen (b := 1) hF rfl rfl (by omega)
      rw [hT0l] at this
      have w := write_nil (s := begun8) (n := 0) (t := t) (htb (fun r o h => hB r o (.inl h))) (X := T0) (p := some (.ext ⟨c.ι 1, 0, none⟩)) (cap := 32) (by rw [hT0l]; exact this) (by omega) (by omega)
      rw [hT0l] at w
      exact w), (by
      obtain ⟨v, m', h⟩ := WrK_ne T0 begun8 (0 + 32)
      exact ⟨_, _, v, m', h, rfl, rfl⟩), ?_⟩
  rintro v m' ⟨v0, ms', ⟨rfl, hcase⟩, rfl, rfl⟩
  have hT64 : T0.length % 64 = 32 := by rw [hT0l]
  have hrT : restOf T0 = T0 := by unfold restOf; rw [hT0l]; rfl
  rcases hcase with ⟨h0, t', N', rfl⟩ | ⟨h0, t', cap', N', hcap', rfl⟩
  · omega
  rw [hT64] at hcap'
  have hmod : T0.length % 64 = T0.length := by omega
  have e1 : T0.drop (64 * (T0.length / 64)) = T0 := hrT
  show T (.tup []) ⟨[some ⟨List.replicate 32 (.int .u8 0), _, 0, false⟩, some ⟨u8s T0, _, 0, false⟩, some ⟨hcells (stateOf T0) (.slice (some (.loc 3 0)) (T0.length % 64) cap') (0 + 32), t', 0, false⟩, some ⟨rnL F0 Con0 (outR [2] 3) (u8s (T0.drop (64 * (T0.length / 64)))), t_uint8, cap' * 1, true⟩], _⟩
  rw [rnL_id (ints_cl .u8 _ 0), e1, hmod]
  refine hT _ _ ?_
  refine aops_end ?_
  refine hK _ _ ?_
  clear hK hR
  refine swp_cut fun K hK hR _ => ?_
  iterate 2 (refine aops_step fun T S hT hS => ?_; (conv => whnf); refine hT _ _ ?_)
  refine aops_step fun T S hT hS => ?_
  conv => whnf
  refine ⟨_, CALL.lend (ms := [some ⟨hcells (stateOf T0) (.slice (some (.loc 1 0)) T0.length cap') (0 + 32), t', 0, false⟩, some ⟨u8s T0, t_uint8, cap' * 1, true⟩]) [2, 3] (by decide) (fun b hb => by
      simp only [List.mem_cons, List.not_mem_nil, or_false] at hb
      show b < 4
      omega) rfl (write_rest (A := A) (p := none) (cap := 0) (X := []) (R := T0) (t := 0) (n := 0) (cap0 := cap') (s := begun8) hTb sl_none (by decide) (by decide) (by omega) (by omega) (by omega)).1 (two_ms rfl rfl rfl) (fun c B hB hF => by
      show CALL PG B f_sha_Hash_Write [.one (.ptr (some (.loc 0 0))), .one (.slice (some (.ext ⟨c.ι 1, 0, none⟩)) 32 32)] _ _
      have := sl_frozen (b := 1) hF rfl rfl (by omega)
      have w := write_rest (s := stateOf T0) (n := 0 + 32) (t := t') (htb (fun r o h => hB r o (.inl h))) (X := T0) (R := T0) (p := some (.ext ⟨c.ι 1, 0, none⟩)) (cap := T0.length) (cap0 := cap') this (by omega) (by omega) (by omega) (by omega) (by omega)
      have e : TV.one (.slice (some (.ext ⟨c.ι 1, 0, none⟩)) 32 32) = TV.one (.slice (some (.ext ⟨c.ι 1, 0, none⟩)) T0.length T0.length) := by rw [hT0l]
      rw [e]
      exact w), (by
      obtain ⟨v, m', h⟩ := WrK2_ne T0 T0 (stateOf T0) (0 + 32 + T0.length)
      exact ⟨_, _, v, m', h, rfl, rfl⟩), ?_⟩
  rintro v m' ⟨v0, ms', hcase, rfl, rfl⟩
  have sm := state_more (Y := T0) (X := T0) (by omega) (T0.drop (64 - T0.length)) (by rw [hmod])
  rw [hrT] at sm
  have hX' : T0.drop (64 - T0.length) = [] := List.drop_eq_nil_of_le (by omega)
  rcases hcase with ⟨hlt, _⟩ | ⟨_, rfl, ⟨h0', t2, N2', rfl⟩ | ⟨h0', _⟩⟩
  · omega
  · rw [sm.1]
    have hY0 : tagY T0 Xs 0 = T0 ++ T0 := by unfold tagY; simp
    have hb0 : ∀ F c ρ, (⟨hcells (stateOf (tagY T0 Xs 0)) (.slice none 0 0) (tagY T0 Xs 0).length, t2, 0, false⟩ : Blk) = ⟨rnL F c ρ (hcells (stateOf (T0 ++ T0)) (.slice none 0 0) (0 + 32 + T0.length)), t2, 0, false⟩ := fun F c ρ => by
      rw [hcells_rn, hY0, List.length_append, show T0.length + T0.length = 0 + 32 + T0.length by omega]
    show T (.tup []) ⟨[some ⟨List.replicate 32 (.int .u8 0), _, 0, false⟩, some ⟨u8s T0, _, 0, false⟩, some ⟨hcells (stateOf (T0 ++ T0)) (.slice none 0 0) _, t2, 0, false⟩, none, none], _⟩
    refine hT _ _ ?_
    refine aops_end ?_
    refine hK _ _ ?_
    clear hK hR
    refine swp_cut fun K hK hR _ => ?_
    refine swp_cut fun K2 hK2 hR2 _ => ?_
    conv => whnf
    refine hK2 _ _ ?_
    clear hK2 hR2
    conv => whnf
    refine .inr (loop_invR (gH A _) (TgI T0 Xs (.one (.slice q0 Xs.length cap0))) ?_ ?_)
    · intro k' e' m' hI
      obtain ⟨i, t0, t1, t2, N, hi, rfl, rfl, hcase⟩ := hI
      rcases hcase with ⟨hm0, rfl⟩ | ⟨hm0, cap, hcapR, rfl⟩
      · conv => whnf
        cases hlt : decide ((i : Int) < (Xs.length : Int)) with
        | true =>
          have hi' : i < Xs.length := by have := of_decide_eq_true hlt; omega
          have hiS : i < Ss.length := by omega
          have hel : (ones Ss)[i]? = some [Ss[i]] := onesGet (List.getElem?_eq_getElem hiS)
          have hX := hE i Ss[i] Xs[i] (List.getElem?_eq_getElem hiS) (List.getElem?_eq_getElem hi')
          have hYs := tagY_succ T0 hi'
          have hYl := tagY_le T0 Xs (i + 1)
          generalize Xs[i] = X at *
          obtain ⟨pX, capX, eS, _, _, _⟩ := id hX
          have eS := TV.one.inj eS
          rw [u8s_len] at eS
          rw [eS] at hel hX
          have hlY : (tagY T0 Xs (i + 1)).length = (tagY T0 Xs i).length + X.length := by rw [← hYs, List.length_append]
          obtain ⟨qa, hqa⟩ := sl_ext' hSt (by rw [hlen]; omega)
          subst hqa
          show swpC _ (Code.seq _ _) _ _ _
          refine swp_cut fun K4 hK4 hR4 _ => ?_
          show swpC _ (Code.seq _ _) _ _ _
          refine swp_cut fun K3 hK3 hR3 _ => ?_
          refine aops_step fun T S hT hS => ?_
          conv => whnf
          rw [dec_idx (n := Xs.length) hi']
          conv => whnf
          refine hT _ _ ?_
          refine aops_step fun T S hT hS => ?_
          conv => whnf
          refine ⟨_, ERead_l (Sl.one (i := i) hSt hel), ?_⟩
          refine hT _ _ ?_
          refine aops_step fun T S hT hS => ?_
          conv => whnf
          refine hT _ _ ?_
          refine aops_end ?_
          refine hK3 _ _ ?_
          clear hK3 hR3
          iterate 2 (refine aops_step fun T S hT hS => ?_; (conv => whnf); refine hT _ _ ?_)
          refine aops_step fun T S hT hS => ?_
          conv => whnf
          refine ⟨_, CALL.lend (ms := [some ⟨hcells (stateOf (tagY T0 Xs i)) (.slice none 0 0) (tagY T0 Xs i).length, t2, 0, false⟩]) [2] (by decide) (fun b hb => by
              simp only [List.mem_singleton] at hb
              show b < 5
              omega) rfl (write_nil (A := A) (p := none) (cap := 0) (X := []) (t := 0) (n := 0) (s := begun8) hTb sl_none (by decide) (by decide)).1 (one_ms rfl fun c ρ F => hcells_rn _ _ F c ρ) (fun c B hB hF => by
              show CALL PG B f_sha_Hash_Write [.one (.ptr (some (.loc 0 0))), TV.rn (keepF [2]) c (inR [2]) (.one (.slice pX X.length capX))] _ _
              rw [hX.rn']
              exact write_nil (htb (fun r o h => hB r o (.inl h))) (hX.mono (fun r o h => hB r o (.inl h))) (by omega) (by omega)), (by
              obtain ⟨v, m', h⟩ := WrK_ne X (stateOf (tagY T0 Xs i)) ((tagY T0 Xs i).length + X.length)
              exact ⟨_, _, v, m', h, rfl, rfl⟩), ?_⟩
          rintro v m' ⟨v0, ms', ⟨rfl, hcase⟩, rfl, rfl⟩
          have sn := state_nil (Y := tagY T0 Xs i) (X := X) hm0
          rw [hYs] at sn
          rcases hcase with ⟨h0, t', N', rfl⟩ | ⟨h0, t', cap', N', hcap', rfl⟩
          · show T (.tup []) ⟨[some ⟨List.replicate 32 (.int .u8 0), t0, 0, false⟩, some ⟨u8s T0, t1, 0, false⟩, some ⟨hcells (runP X (stateOf (tagY T0 Xs i)) (X.length / 64)) (.slice none 0 0) ((tagY T0 Xs i).length + X.length), t', 0, false⟩, none, none], _⟩
            rw [sn.1, ← hlY]
            refine hT _ _ ?_
            refine aops_end ?_
            refine hK4 _ _ ?_
            clear hK4 hR4
            conv => whnf
            refine ⟨Xs.length - (i + 1), F0, ren0, by omega, ren0_ok _, fun c N1 _ _ => ⟨_, _, wkR_of (by (repeat' apply And.intro) <;> first | trivial | exact ⟨_, rfl, tv_inc (n := Xs.length) hi' (by omega), rfl⟩ | exact ⟨_, rfl, rfl, rfl⟩ | exact ⟨_, rfl, (hSt.rn' _ _ _).symm, hSt.stable.1 _⟩) (by (repeat' apply And.intro) <;> first | trivial | rfl | exact ⟨_, rfl, u8_blkR _ _ _ _ _ _ _, ints_cl _ _ _⟩ | exact ⟨_, rfl, rfl, rfl⟩) (by exact Nat.le_of_ble_eq_true rfl), ⟨i + 1, t0, t1, t', N1, hi', rfl, rfl, .inl ⟨by omega, rfl⟩⟩⟩⟩

          · have hrl : X.length % 64 = (restOf (tagY T0 Xs (i + 1))).length := by rw [restOf_len, hlY]; omega
            show T (.tup []) ⟨[some ⟨List.replicate 32 (.int .u8 0), t0, 0, false⟩, some ⟨u8s T0, t1, 0, false⟩, some ⟨hcells (runP X (stateOf (tagY T0 Xs i)) (X.length / 64)) (.slice (some (.loc 5 0)) (X.length % 64) cap') ((tagY T0 Xs i).length + X.length), t', 0, false⟩, none, none, some ⟨rnL F0 Con0 (outR [2] 5) (u8s (X.drop (64 * (X.length / 64)))), t_uint8, cap' * 1, true⟩], _⟩
            rw [rnL_id (ints_cl .u8 _ 0), sn.1, sn.2, ← hlY, hrl]
            rw [hrl] at hcap'
            refine hT _ _ ?_
            refine aops_end ?_
            refine hK4 _ _ ?_
            clear hK4 hR4
            conv => whnf
            refine ⟨Xs.length - (i + 1), F0, ren0, by omega, ren0_ok _, fun c N1 _ _ => ⟨_, _, wkR_of (by (repeat' apply And.intro) <;> first | trivial | exact ⟨_, rfl, tv_inc (n := Xs.length) hi' (by omega), rfl⟩ | exact ⟨_, rfl, rfl, rfl⟩ | exact ⟨_, rfl, (hSt.rn' _ _ _).symm, hSt.stable.1 _⟩) (by (repeat' apply And.intro) <;> first | trivial | rfl | exact ⟨_, rfl, u8_blkR _ _ _ _ _ _ _, ints_cl _ _ _⟩ | exact ⟨_, rfl, rfl, rfl⟩) (by exact Nat.le_of_ble_eq_true rfl), ⟨i + 1, t0, t1, t', N1, hi', rfl, rfl, .inr ⟨by omega, cap', hcap', rfl⟩⟩⟩⟩
        | false =>
          obtain rfl : i = Xs.length := by have := of_decide_eq_false hlt; omega
          conv => whnf
          refine hK _ _ ?_
          clear hK hR
          generalize hYY : tagY T0 Xs Xs.length = Y at *
          refine swp_cut fun K hK hR _ => ?_
          refine aops_step fun T S hT hS => ?_
          conv => whnf
          refine hT _ _ ?_
          refine aops_step fun T S hT hS => ?_
          conv => whnf
          have hrest : restOf Y = [] := List.eq_nil_of_length_eq_zero (by rw [restOf_len]; exact hm0)
          refine ⟨fun v _ => v = .agg (u8s (shaD Y)), fun c B hB hL => by
            have := sum_lent (A := A) (b := 2) (htb (fun r o h => hB r o (.inl h))) hL rfl (r := .slice none 0 0) rfl (q := none) (cap := 0) rfl sl_none (by decide)
            rw [← hrest] at this
            exact this, ⟨.agg (u8s (shaD Y)), B0, ints_cl .u8 _ 0, rfl⟩, ?_⟩
          rintro v N1 _ rfl N2 _
          refine hT _ _ ?_
          refine aops_step fun T S hT hS => ?_
          conv => whnf
          refine hT _ _ ?_
          refine aops_end ?_
          refine hK _ _ ?_
          clear hK hR
          conv => whnf
          intro c N2 _ _
          rfl

      · conv => whnf
        cases hlt : decide ((i : Int) < (Xs.length : Int)) with
        | true =>
          have hi' : i < Xs.length := by have := of_decide_eq_true hlt; omega
          have hiS : i < Ss.length := by omega
          have hel : (ones Ss)[i]? = some [Ss[i]] := onesGet (List.getElem?_eq_getElem hiS)
          have hX := hE i Ss[i] Xs[i] (List.getElem?_eq_getElem hiS) (List.getElem?_eq_getElem hi')
          have hYs := tagY_succ T0 hi'
          have hYl := tagY_le T0 Xs (i + 1)
          generalize Xs[i] = X at *
          obtain ⟨pX, capX, eS, _, _, _⟩ := id hX
          have eS := TV.one.inj eS
          rw [u8s_len] at eS
          rw [eS] at hel hX
          have hlY : (tagY T0 Xs (i + 1)).length = (tagY T0 Xs i).length + X.length := by rw [← hYs, List.length_append]
          obtain ⟨qa, hqa⟩ := sl_ext' hSt (by rw [hlen]; omega)
          subst hqa
          show swpC _ (Code.seq _ _) _ _ _
          refine swp_cut fun K4 hK4 hR4 _ => ?_
          show swpC _ (Code.seq _ _) _ _ _
          refine swp_cut fun K3 hK3 hR3 _ => ?_
          refine aops_step fun T S hT hS => ?_
          conv => whnf
          rw [dec_idx (n := Xs.length) hi']
          conv => whnf
          refine hT _ _ ?_
          refine aops_step fun T S hT hS => ?_
          conv => whnf
          refine ⟨_, ERead_l (Sl.one (i := i) hSt hel), ?_⟩
          refine hT _ _ ?_
          refine aops_step fun T S hT hS => ?_
          conv => whnf
          refine hT _ _ ?_
          refine aops_end ?_
          refine hK3 _ _ ?_
          clear hK3 hR3
          iterate 2 (refine aops_step fun T S hT hS => ?_; (conv => whnf); refine hT _ _ ?_)
          refine aops_step fun T S hT hS => ?_
          conv => whnf
          have hrl0 := restOf_len (tagY T0 Xs i)
          refine ⟨_, CALL.lend (ms := [some ⟨hcells (stateOf (tagY T0 Xs i)) (.slice (some (.loc 1 0)) (restOf (tagY T0 Xs i)).length cap) (tagY T0 Xs i).length, t2, 0, false⟩, some ⟨u8s (restOf (tagY T0 Xs i)), t_uint8, cap * 1, true⟩]) [2, 5] (by decide) (fun b hb => by
              simp only [List.mem_cons, List.not_mem_nil, or_false] at hb
              show b < 6
              omega) rfl (write_nil (A := A) (p := none) (cap := 0) (X := []) (t := 0) (n := 0) (s := begun8) hTb sl_none (by decide) (by decide)).1 (two_ms rfl rfl rfl) (fun c B hB hF => by
              show CALL PG B f_sha_Hash_Write [.one (.ptr (some (.loc 0 0))), TV.rn (keepF [2, 5]) c (inR [2, 5]) (.one (.slice pX X.length capX))] _ _
              rw [hX.rn']
              exact write_rest (htb (fun r o h => hB r o (.inl h))) (hX.mono (fun r o h => hB r o (.inl h))) (by omega) (by omega) (by omega) (by omega) hcapR), (by
              obtain ⟨v, m', h⟩ := WrK2_ne (restOf (tagY T0 Xs i)) X (stateOf (tagY T0 Xs i)) ((tagY T0 Xs i).length + X.length)
              exact ⟨_, _, v, m', h, rfl, rfl⟩), ?_⟩
          rintro v m' ⟨v0, ms', hcase, rfl, rfl⟩
          rcases hcase with ⟨hlt2, rfl, t', cap', N', hcap', rfl⟩ | ⟨hge, rfl, hcase⟩
          · have sl := state_less (Y := tagY T0 Xs i) (X := X) (by omega)
            rw [hYs] at sl
            have hrl : (restOf (tagY T0 Xs i)).length + X.length = (restOf (tagY T0 Xs (i + 1))).length := by rw [sl.2, List.length_append]
            show T (.tup []) ⟨[some ⟨List.replicate 32 (.int .u8 0), t0, 0, false⟩, some ⟨u8s T0, t1, 0, false⟩, some ⟨hcells (stateOf (tagY T0 Xs i)) (.slice (some (.loc 6 0)) ((restOf (tagY T0 Xs i)).length + X.length) cap') ((tagY T0 Xs i).length + X.length), t', 0, false⟩, none, none, none, some ⟨rnL F0 Con0 (outR [2, 5] 6) (u8s (restOf (tagY T0 Xs i) ++ X)), t_uint8, cap' * 1, true⟩], _⟩
            rw [rnL_id (ints_cl .u8 _ 0), hrl, ← sl.1, ← sl.2, ← hlY]
            rw [hrl] at hcap'
            have hr1 := restOf_len (tagY T0 Xs (i + 1))
            refine hT _ _ ?_
            refine aops_end ?_
            refine hK4 _ _ ?_
            clear hK4 hR4
            conv => whnf
            refine ⟨Xs.length - (i + 1), F0, tp 5 6, by omega, tp_ok (by exact Nat.le_of_ble_eq_true rfl) (by exact Nat.le_of_ble_eq_true rfl), fun c N1 _ _ => ⟨_, _, wkR_of (by (repeat' apply And.intro) <;> first | trivial | exact ⟨_, rfl, tv_inc (n := Xs.length) hi' (by omega), rfl⟩ | exact ⟨_, rfl, rfl, rfl⟩ | exact ⟨_, rfl, (hSt.rn' _ _ _).symm, hSt.stable.1 _⟩) (by (repeat' apply And.intro) <;> first | trivial | rfl | exact ⟨_, rfl, u8_blkR _ _ _ _ _ _ _, ints_cl _ _ _⟩ | exact ⟨_, rfl, rfl, rfl⟩) (by exact Nat.le_of_ble_eq_true rfl), ⟨i + 1, t0, t1, t', N1, hi', rfl, rfl, .inr ⟨by omega, cap', hcap', rfl⟩⟩⟩⟩

          · have sm := state_more (Y := tagY T0 Xs i) (X := X) (by omega) (X.drop (64 - (restOf (tagY T0 Xs i)).length)) (by rw [hrl0])
            rw [hYs] at sm
            have hr1 := restOf_len (tagY T0 Xs (i + 1))
            rcases hcase with ⟨h0, t', N', rfl⟩ | ⟨h0, t', cap', N', hcap', rfl⟩
            · rw [sm.2.2] at h0
              show T (.tup []) ⟨[some ⟨List.replicate 32 (.int .u8 0), t0, 0, false⟩, some ⟨u8s T0, t1, 0, false⟩, some ⟨hcells (runP (X.drop (64 - (restOf (tagY T0 Xs i)).length)) (runP (restOf (tagY T0 Xs i) ++ X) (stateOf (tagY T0 Xs i)) 1) ((X.drop (64 - (restOf (tagY T0 Xs i)).length)).length / 64)) (.slice none 0 0) ((tagY T0 Xs i).length + X.length), t', 0, false⟩, none, none, none, none], _⟩
              rw [sm.1, ← hlY]
              refine hT _ _ ?_
              refine aops_end ?_
              refine hK4 _ _ ?_
              clear hK4 hR4
              conv => whnf
              refine ⟨Xs.length - (i + 1), F0, ren0, by omega, ren0_ok _, fun c N1 _ _ => ⟨_, _, wkR_of (by (repeat' apply And.intro) <;> first | trivial | exact ⟨_, rfl, tv_inc (n := Xs.length) hi' (by omega), rfl⟩ | exact ⟨_, rfl, rfl, rfl⟩ | exact ⟨_, rfl, (hSt.rn' _ _ _).symm, hSt.stable.1 _⟩) (by (repeat' apply And.intro) <;> first | trivial | rfl | exact ⟨_, rfl, u8_blkR _ _ _ _ _ _ _, ints_cl _ _ _⟩ | exact ⟨_, rfl, rfl, rfl⟩) (by exact Nat.le_of_ble_eq_true rfl), ⟨i + 1, t0, t1, t', N1, hi', rfl, rfl, .inl ⟨h0, rfl⟩⟩⟩⟩

            · show T (.tup []) ⟨[some ⟨List.replicate 32 (.int .u8 0), t0, 0, false⟩, some ⟨u8s T0, t1, 0, false⟩, some ⟨hcells (runP (X.drop (64 - (restOf (tagY T0 Xs i)).length)) (runP (restOf (tagY T0 Xs i) ++ X) (stateOf (tagY T0 Xs i)) 1) ((X.drop (64 - (restOf (tagY T0 Xs i)).length)).length / 64)) (.slice (some (.loc 7 0)) ((X.drop (64 - (restOf (tagY T0 Xs i)).length)).length % 64) cap') ((tagY T0 Xs i).length + X.length), t', 0, false⟩, none, none, none, none, some ⟨rnL F0 Con0 (outR [2, 5] 6) (u8s ((X.drop (64 - (restOf (tagY T0 Xs i)).length)).drop (64 * ((X.drop (64 - (restOf (tagY T0 Xs i)).length)).length / 64)))), t_uint8, cap' * 1, true⟩], _⟩
              rw [sm.2.2] at h0 hcap'
              rw [rnL_id (ints_cl .u8 _ 0), sm.1, sm.2.1, sm.2.2, ← hr1, ← hlY]
              rw [← hr1] at hcap'
              refine hT _ _ ?_
              refine aops_end ?_
              refine hK4 _ _ ?_
              clear hK4 hR4
              conv => whnf
              refine ⟨Xs.length - (i + 1), F0, tp 5 7, by omega, tp_ok (by exact Nat.le_of_ble_eq_true rfl) (by exact Nat.le_of_ble_eq_true rfl), fun c N1 _ _ => ⟨_, _, wkR_of (by (repeat' apply And.intro) <;> first | trivial | exact ⟨_, rfl, tv_inc (n := Xs.length) hi' (by omega), rfl⟩ | exact ⟨_, rfl, rfl, rfl⟩ | exact ⟨_, rfl, (hSt.rn' _ _ _).symm, hSt.stable.1 _⟩) (by (repeat' apply And.intro) <;> first | trivial | rfl | exact ⟨_, rfl, u8_blkR _ _ _ _ _ _ _, ints_cl _ _ _⟩ | exact ⟨_, rfl, rfl, rfl⟩) (by exact Nat.le_of_ble_eq_true rfl), ⟨i + 1, t0, t1, t', N1, hi', rfl, rfl, .inr ⟨h0, cap', hcap', rfl⟩⟩⟩⟩
        | false =>
          obtain rfl : i = Xs.length := by have := of_decide_eq_false hlt; omega
          conv => whnf
          refine hK _ _ ?_
          clear hK hR
          generalize hYY : tagY T0 Xs Xs.length = Y at *
          refine swp_cut fun K hK hR _ => ?_
          refine aops_step fun T S hT hS => ?_
          conv => whnf
          refine hT _ _ ?_
          refine aops_step fun T S hT hS => ?_
          conv => whnf
          refine ⟨fun v _ => v = .agg (u8s (shaD Y)), fun c B hB hL => sum_lent (A := A) (b := 2) (htb (fun r o h => hB r o (.inl h))) hL rfl (r := .slice (some (.loc 5 0)) (restOf Y).length cap) rfl (q := some (.ext ⟨c.ι 5, 0, none⟩)) (cap := cap) rfl
            (sl_lent (b := 5) (o := 0) (L := ones (u8s (restOf Y))) (post := []) hL rfl (ints_cl _ _ 0) (by rw [ones_flat]; exact (List.append_nil _).symm) (by rw [u8s_len]) (by rw [u8s_len]; exact hcapR) (by rw [u8s_len, restOf_len]; omega) (ones_es _)) (by rw [restOf_len]; omega), ⟨.agg (u8s (shaD Y)), B0, ints_cl .u8 _ 0, rfl⟩, ?_⟩
          rintro v N1 _ rfl N2 _
          refine hT _ _ ?_
          refine aops_step fun T S hT hS => ?_
          conv => whnf
          refine hT _ _ ?_
          refine aops_end ?_
          refine hK _ _ ?_
          clear hK hR
          conv => whnf
          intro c N2 _ _
          rfl

    · refine ⟨Xs.length, F0, ren0, ren0_ok _, fun c N1 _ _ => ⟨_, _, wkR_of (by (repeat' apply And.intro) <;> first | trivial | exact ⟨_, rfl, rfl, rfl⟩ | exact ⟨_, rfl, (hSt.rn' _ _ _).symm, hSt.stable.1 _⟩) (by (repeat' apply And.intro) <;> first | trivial | rfl | exact ⟨_, rfl, u8_blkR _ _ _ _ _ _ _, ints_cl _ _ _⟩ | exact ⟨_, rfl, hb0 _ _ _, rfl⟩ | exact ⟨_, rfl, rfl, rfl⟩) (by exact Nat.le_of_ble_eq_true rfl), ⟨0, _, _, t2, N1, Nat.zero_le _, rfl, rfl, .inl ⟨by rw [hY0, List.length_append]; omega, rfl⟩⟩⟩⟩
  · rw [hX'] at h0'
    exact absurd rfl h0'

end Go.Hv
