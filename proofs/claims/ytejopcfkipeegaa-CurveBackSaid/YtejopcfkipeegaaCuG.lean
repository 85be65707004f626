import Derived.Test.YtejopcfkipeegaaCuF
namespace Go.Hv
open Go.Ev Go.Ec

theorem putAt_mid : ∀ (p : List Sc) (s : List Sc) (c v : Sc) (o : Nat), p.length = o → putAt (p ++ c :: s) o [v] = some (p ++ v :: s)
  | [], s, c, v, o, h => by
    subst h
    cases s <;> rfl
  | x :: p, s, c, v, 0, h => by simp at h
  | x :: p, s, c, v, o + 1, h => by
    simp only [List.cons_append, putAt]
    rw [putAt_mid p s c v o (by simpa using h)]

theorem putAt_row {l : List Sc} {z : Sc} {n j : Nat} (hl : l.length = n) (hj : j < l.length) : putAt (l.take j ++ List.replicate (n - j) z) (0 + j * 1) [l[j]'hj] = some (l.take (j + 1) ++ List.replicate (n - (j + 1)) z) := by
  subst hl
  have e : l.length - j = (l.length - (j + 1)) + 1 := by omega
  rw [e, List.replicate_succ, putAt_mid _ _ _ _ _ (by rw [List.length_take]; omega), ← take_snoc hj, List.append_assoc]
  rfl

theorem bcsL_isint (l0 l1 l2 l3 : Int) : ∀ s ∈ bcsL l0 l1 l2 l3, ∃ z, s = .int .u8 z := fun s hs => by
  simp only [bcsL, bq, List.mem_cons, List.not_mem_nil, or_false] at hs
  rcases hs with h | h | h | h | h | h | h | h | h | h | h | h | h | h | h | h | h | h | h | h | h | h | h | h | h | h | h | h | h | h | h | h <;> exact ⟨_, h⟩

theorem row_cl (l0 l1 l2 l3 : Int) (j k n : Nat) : closedL n ((bcsL l0 l1 l2 l3).take j ++ List.replicate k (.int .u8 0)) = true :=
  closedL_iff.2 fun s hs => by
    rcases List.mem_append.1 hs with h | h
    · obtain ⟨z, rfl⟩ := bcsL_isint l0 l1 l2 l3 s (List.mem_of_mem_take h)
      rfl
    · rw [(List.mem_replicate.1 h).2]
      rfl

theorem fzL_int {F : Nat → Bool} {c : Con} : ∀ {l : List Sc}, (∀ s ∈ l, ∃ z, s = .int .u8 z) → fzL F c l = l
  | [], _ => rfl
  | s :: l, h => by
    obtain ⟨z, rfl⟩ := h s (by simp)
    show Sc.int .u8 z :: fzL F c l = _
    rw [fzL_int fun s hs => h s (by simp [hs])]

theorem row_int (l0 l1 l2 l3 : Int) (j k : Nat) : ∀ s ∈ (bcsL l0 l1 l2 l3).take j ++ List.replicate k (.int .u8 0), ∃ z, s = .int .u8 z := fun s hs => by
  rcases List.mem_append.1 hs with h | h
  · exact bcsL_isint l0 l1 l2 l3 s (List.mem_of_mem_take h)
  · exact ⟨0, (List.mem_replicate.1 h).2⟩

theorem row_blk (l0 l1 l2 l3 : Int) (j k t : Nat) (F : Nat → Bool) (c : Con) : (⟨(bcsL l0 l1 l2 l3).take j ++ List.replicate k (.int .u8 0), t, 0, false⟩ : Blk) = ⟨fzL F c ((bcsL l0 l1 l2 l3).take j ++ List.replicate k (.int .u8 0)), t, 0, false⟩ := by rw [fzL_int (row_int l0 l1 l2 l3 j k)]

def scI : Sc → Int
  | .int _ z => z
  | _ => 0

/-- Bytes. -/
def isB (l : List Sc) : Prop := ∀ s ∈ l, ∃ z, s = .int .u8 z ∧ 0 ≤ z ∧ z < 256

theorem isB_bytes : ∀ {l : List Sc}, isB l → bytesS (l.map scI) = l
  | [], _ => rfl
  | s :: l, h => by
    obtain ⟨z, rfl, _⟩ := h s (by simp)
    show byteS z :: bytesS (l.map scI) = _
    rw [isB_bytes fun s hs => h s (by simp [hs])]
    rfl

theorem isB_lt {l : List Sc} (h : isB l) : ∀ z ∈ l.map scI, 0 ≤ z ∧ z < 256 := fun z hz => by
  obtain ⟨s, hs, rfl⟩ := List.mem_map.1 hz
  obtain ⟨z, rfl, hz1, hz2⟩ := h s hs
  exact ⟨hz1, hz2⟩

theorem isB_bq (l : Int) (k : Nat) : ∃ z, bq l k = .int .u8 z ∧ 0 ≤ z ∧ z < 256 := ⟨_, rfl, by rw [wr8]; omega, by rw [wr8]; omega⟩

theorem isB_bcsL (l0 l1 l2 l3 : Int) : isB (bcsL l0 l1 l2 l3) := fun s hs => by
  simp only [bcsL, List.mem_cons, List.not_mem_nil, or_false] at hs
  rcases hs with h | h | h | h | h | h | h | h | h | h | h | h | h | h | h | h | h | h | h | h | h | h | h | h | h | h | h | h | h | h | h | h <;> rw [h] <;> exact isB_bq _ _

theorem isB_cons {c : Int} {l : List Sc} (hc : 0 ≤ c ∧ c < 256) (h : isB l) : isB (.int .u8 c :: l) := fun s hs => by
  rcases List.mem_cons.1 hs with rfl | hs
  · exact ⟨c, rfl, hc⟩
  · exact h s hs

theorem isB_zero (n : Nat) : isB (List.replicate n (.int .u8 0)) := fun s hs => ⟨0, (List.mem_replicate.1 hs).2, by decide, by decide⟩

theorem isB_bcs4 (y : Int) : isB (bcs4 y) := isB_bcsL _ _ _ _

theorem isB_enc (x y : Int) (b : Bool) : isB (encC x y b) := by
  unfold encC
  split
  · exact isB_zero 33
  · split
    · exact isB_cons (by split <;> decide) (isB_bcs4 x)
    · exact isB_zero 33

theorem encC_take (x y : Int) (b : Bool) : takeAt (encC x y b) 0 33 = some (encC x y b) := by
  unfold encC
  split
  · rfl
  · split <;> rfl

theorem encC_cl (x y : Int) (b : Bool) : closedL 0 (encC x y b) = true := encC_closed x y b

theorem encC_len (x y : Int) (b : Bool) : (encC x y b).length = 33 := by
  unfold encC
  split
  · rfl
  · split <;> rfl

theorem enc_hco {A : Base} {x y : Int} {b : Bool} (hx : InW x) (hy : InW y) : HCO PG A f_ref05_Encode [ptV x y b] fun n cap k _ => n = 33 ∧ 33 ≤ cap ∧ ∃ es g, k = ⟨encC x y b, 5, es, g⟩ := r5Encode_hco hx hy

theorem liftV_pt {x : Int} (hx : InW x) : ∃ px py pb ok, InW px ∧ InW py ∧ liftV x = .tup [.agg (ptC px py pb), .one (.bool ok)] := by
  have hv : liftV x = match (liftR x).2 with
    | true => .tup [.agg (ptC x (liftR x).1 false), .one (.bool true)]
    | false => .tup [.agg (ptC 0 0 true), .one (.bool false)] := rfl
  cases h : (liftR x).2 with
  | true => exact ⟨x, (liftR x).1, false, true, hx, liftR_in x, by rw [hv, h]⟩
  | false => exact ⟨0, 0, true, false, ⟨by decide, by decide⟩, ⟨by decide, by decide⟩, by rw [hv, h]⟩

def ordDec : Nat → Option (List Nat)
  | 13 => some [0, 1, 2, 3, 6, 7, 4, 5, 8]
  | _ => none

def DcE (a : Addr) (cap : Nat) (j : Nat) : Env := [(5, .one (.int .i64 (j : Int))), (4, .one (.ptr (some (.loc 1 0)))), (3, .one (.bool false)), (2, .one (.ptr (some (.loc 0 0)))), (0, .one (.slice (some (.ext a)) 33 cap))]

def DcI (a : Addr) (cap : Nat) (l0 l1 l2 l3 : Int) (k : Nat) (e : Env) (m : HM) : Prop :=
  ∃ (j t0 t1 : Nat) (N : Base), j ≤ 32 ∧ k = 32 - j ∧ e = DcE a cap j ∧
    m = ⟨[some ⟨r9, t0, 0, false⟩, some ⟨(bcsL l0 l1 l2 l3).take j ++ List.replicate (32 - j) (.int .u8 0), t1, 0, false⟩], N⟩

/-- Two texts compared. -/
def eqB (l l' : List Sc) : Bool := (strOf (l.map scI)).toList == (strOf (l'.map scI)).toList

def decE (L : List Sc) (px py : Int) (pb : Bool) (nx ny : Int) (nb : Bool) : List Sc × Bool :=
  match eqB (encC 0 0 true) L with
  | true => (ptC 0 0 true, true)
  | false => match eqB (encC px py pb) L with
    | true => (ptC px py pb, true)
    | false => match eqB (encC nx ny nb) L with
      | true => (ptC nx ny nb, true)
      | false => (ptC 0 0 true, false)

set_option maxHeartbeats 1000000 in
set_option maxRecDepth 100000 in
theorem r5Decode_33 {A : Base} {s : TV} {c l0 l1 l2 l3 : Int} (hc : 0 ≤ c ∧ c < 256) (h0 : InU l0) (h1 : InU l1) (h2 : InU l2) (h3 : InU l3) (hs : Sl A 1 s (ones (.int .u8 c :: bcsL l0 l1 l2 l3)))
    {px py nx ny : Int} {pb ok nb : Bool} (ipx : InW px) (ipy : InW py) (inx : InW nx) (iny : InW ny) (ev : liftV (val l0 l1 l2 l3) = .tup [.agg (ptC px py pb), .one (.bool ok)]) (ep : ptOf (neg (tkn px py pb)) = ptV nx ny nb) :
    HC PG A f_ref05_Decode [s] fun v _ => v = .tup [.agg (decE (.int .u8 c :: bcsL l0 l1 l2 l3) px py pb nx ny nb).1, .one (.bool (decE (.int .u8 c :: bcsL l0 l1 l2 l3) px py pb nx ny nb).2)] := by
  obtain ⟨p, cap, rfl, g1, g2, g3⟩ := id hs
  refine hc_start ordDec h_ref05_Decode rfl (by kernel_rfl) (by kernel_rfl) (ones_hp hs) ?_
  have hl : (ones (Sc.int .u8 c :: bcsL l0 l1 l2 l3)).length = 33 := rfl
  have hc33 : 33 ≤ cap := by have := g1.1; rwa [hl] at this
  rw [hl] at *
  match p, g3 with
  | none, g3 => exact absurd g3.1 (by simp [ones, bcsL])
  | some (.ext a), _ =>
    refine swp_cut fun K hK hR _ => ?_
    conv => whnf
    refine hK _ _ ?_
    clear hK hR
    refine swp_cut fun K1 hK1 hR1 _ => swp_cut fun K hK hR _ => ?_
    conv => whnf
    refine hK _ _ ?_
    clear hK hR
    conv => whnf
    refine hK1 _ _ ?_
    clear hK1 hR1
    refine swp_cut fun K hK hR _ => ?_
    conv => whnf
    refine hK _ _ ?_
    clear hK hR
    refine swp_cut fun K hK hR _ => ?_
    conv => whnf
    refine .inr (loop_invC (gH A _) (DcI a cap l0 l1 l2 l3) ?_ ?_)
    · intro k' e' m' hI
      obtain ⟨j, t0, t1, N, hj32, rfl, rfl, rfl⟩ := hI
      conv => whnf
      cases hlt : decide ((j : Int) < 32) with
      | true =>
        have hj : j < 32 := by have := of_decide_eq_true hlt; omega
        have hw : IntKind.i64.wrap ((j : Int) + 1) = ((j + 1 : Nat) : Int) := by
          simp only [IntKind.wrap, IntKind.signed, IntKind.bits]
          simp
          omega
        have hj' : j < (bcsL l0 l1 l2 l3).length := by rw [show (bcsL l0 l1 l2 l3).length = 32 from rfl]; exact hj
        have hpt := putAt_row (l := bcsL l0 l1 l2 l3) (z := .int .u8 0) (n := 32) (j := j) rfl hj'
        have hel : (ones (Sc.int .u8 c :: bcsL l0 l1 l2 l3))[j + 1]? = some [(bcsL l0 l1 l2 l3)[j]'hj'] := ones_get (by rw [List.getElem?_cons_succ]; exact List.getElem?_eq_getElem hj')
        generalize hcj : (bcsL l0 l1 l2 l3)[j]'hj' = cj at *
        conv => whnf
        rw [hw]
        rw [dec_idx (n := 33) (i := j + 1) (by omega)]
        conv => whnf
        refine ⟨_, ERead_l (Sl.one (i := j + 1) hs hel), ?_⟩
        conv => whnf
        rw [dec_idx (n := 32) hj]
        conv => whnf
        conv in (putAt _ _ _) => change putAt ((bcsL l0 l1 l2 l3).take j ++ List.replicate (32 - j) (.int .u8 0)) (0 + j * 1) [cj]; rw [hpt]
        conv => whnf
        refine ⟨32 - (j + 1), F0, by omega, fun c N1 _ _ => ⟨_, _, wk_of (by (repeat' apply And.intro) <;> first | trivial | exact ⟨_, rfl, tv_inc (n := 32) hj (by omega), rfl⟩ | exact ⟨_, rfl, rfl, rfl⟩) (by (repeat' apply And.intro) <;> first | trivial | rfl | exact ⟨_, rfl, rfl, rfl⟩ | exact ⟨_, rfl, row_blk _ _ _ _ _ _ _ _ _, row_cl _ _ _ _ _ _ _⟩) (by exact Nat.le_of_ble_eq_true rfl) (by exact Nat.le_of_ble_eq_true rfl), ⟨j + 1, t0, t1, N1, hj, rfl, rfl, rfl⟩⟩⟩
      | false =>
        have : j = 32 := by have := of_decide_eq_false hlt; omega
        subst this
        conv => whnf
        refine hK _ _ ?_
        clear hK hR
        have c1 := r5Lift_fn h0 h1 h2 h3
        have c0 := r5zero_fn
        refine swp_cut fun K hK hR _ => ?_
        conv => whnf
        have hx : InW (val l0 l1 l2 l3) := by unfold val; exact ⟨by omega, by omega⟩
        refine ⟨_, c1, rfl, ?_⟩
        generalize val l0 l1 l2 l3 = x at *
        have hn := r5Neg_fn (b := pb) ipx ipy
        rw [ep] at hn
        rw [ev]
        conv => whnf
        refine hK _ _ ?_
        clear hK hR
        refine swp_cut fun K hK hR _ => ?_
        conv => whnf
        refine ⟨_, c0, rfl, ?_⟩
        conv => whnf
        refine ⟨_, hn, rfl, ?_⟩
        conv => whnf
        refine hK _ _ ?_
        clear hK hR
        refine swp_cut fun K hK hR _ => ?_
        conv => whnf
        refine .inl ⟨4, round_cut fun K1 hK1 hX1 hY1 => ?_⟩
        conv => whnf
        have hB : isB (.int .u8 c :: bcsL l0 l1 l2 l3) := isB_cons hc (isB_bcsL _ _ _ _)
        have hSH : ∀ N : Base, (bytesS ((Sc.int .u8 c :: bcsL l0 l1 l2 l3).map scI)).length = 33 ∧ closedL 0 (bytesS ((Sc.int .u8 c :: bcsL l0 l1 l2 l3).map scI)) = true ∧ ∀ i s, (bytesS ((Sc.int .u8 c :: bcsL l0 l1 l2 l3).map scI))[i]? = some s → bcell (A.or N) (a.add i) (s.conc Con0) := fun N => by
          rw [isB_bytes hB]
          obtain ⟨l, e1, e2, e3, e4⟩ := Sl.part0 (l := .int .u8 c :: bcsL l0 l1 l2 l3) hs (.int .u8 c :: bcsL l0 l1 l2 l3) (fun i s h => h)
          obtain rfl := TV.agg.inj e4
          exact ⟨rfl, e3, fun i s hi => bcell_le (Base.le_l A N) (e2 i s hi)⟩
        refine ⟨(Sc.int .u8 c :: bcsL l0 l1 l2 l3).map scI, rfl, hSH _, isB_lt hB, ?_⟩
        conv => whnf
        refine ⟨fun n cap k _ => n = 33 ∧ 33 ≤ cap ∧ ∃ es g, k = ⟨encC 0 0 true, 5, es, g⟩, fun c B hB hL => enc_hco (b := true) ⟨by decide, by decide⟩ ⟨by decide, by decide⟩, ⟨33, 33, ⟨encC 0 0 true, 5, 33, false⟩, B0, encC_cl 0 0 true, rfl, Nat.le_refl _, 33, false, rfl⟩, ?_⟩
        rintro n cap1 k N' _ ⟨rfl, hcap, es, g, rfl⟩ N1 _
        conv => whnf
        refine ⟨(encC 0 0 true).map scI, (by rw [List.length_map, encC_len]), (by rw [isB_bytes (isB_enc _ _ _)]; show takeAt (encC 0 0 true) 0 33 = some (encC 0 0 true); exact encC_take _ _ _), isB_lt (isB_enc _ _ _), ?_⟩
        conv => whnf
        change match eqB (encC 0 0 true) (.int .u8 c :: bcsL l0 l1 l2 l3) with | true => _ | false => _
        cases h1 : eqB (encC 0 0 true) (.int .u8 c :: bcsL l0 l1 l2 l3) with
        | true =>
          conv => whnf
          refine hY1 _ _ ?_
          conv => whnf
          refine hR _ _ ?_
          conv => whnf
          intro c N2 _ _
          unfold decE
          simp only [h1]
          rfl
        | false =>
        conv => whnf
        refine hK1 _ _ ?_
        clear hK1 hX1 hY1
        refine round_cut fun K1 hK1 hX1 hY1 => ?_
        conv => whnf
        refine ⟨(Sc.int .u8 c :: bcsL l0 l1 l2 l3).map scI, rfl, hSH _, isB_lt hB, ?_⟩
        conv => whnf
        refine ⟨fun n cap k _ => n = 33 ∧ 33 ≤ cap ∧ ∃ es g, k = ⟨encC px py pb, 5, es, g⟩, fun c B hB hL => enc_hco (b := pb) ipx ipy, ⟨33, 33, ⟨encC px py pb, 5, 33, false⟩, B0, encC_cl px py pb, rfl, Nat.le_refl _, 33, false, rfl⟩, ?_⟩
        rintro n cap1 k N' _ ⟨rfl, hcap, es, g, rfl⟩ N1 _
        conv => whnf
        refine ⟨(encC px py pb).map scI, (by rw [List.length_map, encC_len]), (by rw [isB_bytes (isB_enc _ _ _)]; show takeAt (encC px py pb) 0 33 = some (encC px py pb); exact encC_take _ _ _), isB_lt (isB_enc _ _ _), ?_⟩
        conv => whnf
        change match eqB (encC px py pb) (.int .u8 c :: bcsL l0 l1 l2 l3) with | true => _ | false => _
        cases h2 : eqB (encC px py pb) (.int .u8 c :: bcsL l0 l1 l2 l3) with
        | true =>
          conv => whnf
          refine hY1 _ _ ?_
          conv => whnf
          refine hR _ _ ?_
          conv => whnf
          intro c N2 _ _
          unfold decE
          simp only [h1, h2]
          rfl
        | false =>
        conv => whnf
        refine hK1 _ _ ?_
        clear hK1 hX1 hY1
        refine round_cut fun K1 hK1 hX1 hY1 => ?_
        conv => whnf
        refine ⟨(Sc.int .u8 c :: bcsL l0 l1 l2 l3).map scI, rfl, hSH _, isB_lt hB, ?_⟩
        conv => whnf
        refine ⟨fun n cap k _ => n = 33 ∧ 33 ≤ cap ∧ ∃ es g, k = ⟨encC nx ny nb, 5, es, g⟩, fun c B hB hL => enc_hco (b := nb) inx iny, ⟨33, 33, ⟨encC nx ny nb, 5, 33, false⟩, B0, encC_cl nx ny nb, rfl, Nat.le_refl _, 33, false, rfl⟩, ?_⟩
        rintro n cap1 k N' _ ⟨rfl, hcap, es, g, rfl⟩ N1 _
        conv => whnf
        refine ⟨(encC nx ny nb).map scI, (by rw [List.length_map, encC_len]), (by rw [isB_bytes (isB_enc _ _ _)]; show takeAt (encC nx ny nb) 0 33 = some (encC nx ny nb); exact encC_take _ _ _), isB_lt (isB_enc _ _ _), ?_⟩
        conv => whnf
        change match eqB (encC nx ny nb) (.int .u8 c :: bcsL l0 l1 l2 l3) with | true => _ | false => _
        cases h3 : eqB (encC nx ny nb) (.int .u8 c :: bcsL l0 l1 l2 l3) with
        | true =>
          conv => whnf
          refine hY1 _ _ ?_
          conv => whnf
          refine hR _ _ ?_
          conv => whnf
          intro c N2 _ _
          unfold decE
          simp only [h1, h2, h3]
          rfl
        | false =>
        conv => whnf
        refine hK1 _ _ ?_
        clear hK1 hX1 hY1
        refine round_cut fun K1 hK1 hX1 hY1 => ?_
        conv => whnf
        refine hX1 _ _ _ ?_
        conv => whnf
        refine hK _ _ ?_
        refine swp_cut fun K hK hR _ => ?_
        conv => whnf
        refine ⟨_, c0, rfl, ?_⟩
        conv => whnf
        refine hK _ _ ?_
        clear hK hR
        conv => whnf
        intro c N2 _ _
        unfold decE
        simp only [h1, h2, h3]
        rfl
    · refine ⟨32, F0, fun c N1 _ _ => ⟨_, _, wk_of (by (repeat' apply And.intro) <;> first | trivial | exact ⟨_, rfl, rfl, rfl⟩) (by (repeat' apply And.intro) <;> first | trivial | rfl | exact ⟨_, rfl, rfl, rfl⟩) (by exact Nat.le_of_ble_eq_true rfl) (by exact Nat.le_of_ble_eq_true rfl), ⟨0, _, _, N1, by omega, rfl, rfl, rfl⟩⟩⟩

end Go.Hv
