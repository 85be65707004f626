import Derived.Test.YtknjgeicagcdoaaDoorSh1
import Derived.Test.YtknjgeicagcdoaaDoorLend
namespace Go.Hv
open Go.Ev

theorem call_start {A : Base} {f : FuncId} {fn : Func} {args : List TV} {m : HM} {K : TV → HM → Prop} (ord : Nat → Option (List Nat)) (hf : PG.funcs[f]? = some fn)
    (hb : fn.body = some (bodyOf fn)) (hn : (fn.name == "runtime.NumGoroutine") = false) (hk : okCode (HHo A ord) fn.ntmps (bodyOf fn) = true)
    (h : swpC (HHo A ord) (bodyOf fn) (post (HHo A ord) fn.results K) (ienv 0 args) m) : CALL PG A f args m K :=
  call_of_swp (gH A ord) hf hb hn hk (swpC_imp _ (fun _ _ _ h => h) h)

abbrev u8s (X : List Int) : List Sc := X.map (Sc.int .u8)

/-- What a slice holds, for append. -/
theorem Sl.has {A : Base} {m : HM} {p : Option SP} {n cap : Nat} {l : List Sc} (h : Sl A 1 (.one (.slice p n cap)) (ones l)) (hn : n = l.length) : SliceHas A m (.one (.slice p n cap)) (n * 1) l := by
  obtain ⟨p', cap', e, h2, h3, h4⟩ := h
  simp only [TV.one.injEq, Sc.slice.injEq] at e
  obtain ⟨rfl, _, rfl⟩ := e
  match p, h4 with
  | none, h4 =>
    have := h4.1
    simp only [ones, List.map_eq_nil_iff] at this
    exact this
  | some (.ext a), h4 =>
    refine ⟨by rw [hn, Nat.mul_one], closedL_iff.2 fun s hs => ?_, fun i s hi => ?_⟩
    · obtain ⟨i, hi⟩ := List.getElem?_of_mem hs
      have := (h3 [s] (List.mem_of_getElem? (onesGet hi))).2
      exact closedL_iff.1 this s (by simp)
    · have := h4.2 i [s] 0 s (onesGet hi) rfl
      rw [Nat.mul_one, Nat.add_zero] at this
      exact bcell_le (Base.le_l A m.N) this

theorem u8s_len (X : List Int) : (ones (u8s X)).length = X.length := by rw [ones_len, List.length_map]

theorem Sl.fst {A : Base} {a : Addr} {n cap k : Nat} {X : List Int} (h : Sl A 1 (.one (.slice (some (.ext a)) n cap)) (ones (u8s X))) (hk : k ≤ X.length) : Sl A 1 (.one (.slice (some (.ext a)) k cap)) (ones (u8s (X.take k))) := by
  obtain ⟨p', cap', e, h2, h3, h4⟩ := h
  simp only [TV.one.injEq, Sc.slice.injEq] at e
  obtain ⟨rfl, _, rfl⟩ := e
  rw [u8s_len] at h2
  have hl : (X.take k).length = k := by rw [List.length_take]; omega
  have hmem : ∀ {i : Nat} {x : List Sc}, (ones (u8s (X.take k)))[i]? = some x → (ones (u8s X))[i]? = some x := fun {i x} hi => by
    have hlt := (List.getElem?_eq_some_iff.1 hi).1
    rw [u8s_len, hl] at hlt
    simp only [ones, u8s, List.getElem?_map, List.getElem?_take_of_lt hlt] at hi ⊢
    exact hi
  refine ⟨some (.ext a), cap, by rw [u8s_len, hl], ⟨by rw [u8s_len, hl]; omega, by rw [u8s_len, hl]; omega⟩, fun x hx => ?_, h4.1, fun i x j s hi hj => h4.2 i x j s (hmem hi) hj⟩
  obtain ⟨i, hi⟩ := List.getElem?_of_mem hx
  exact h3 x (List.mem_of_getElem? (hmem hi))

theorem Sl.rest {A : Base} {a : Addr} {n cap k : Nat} {X : List Int} (h : Sl A 1 (.one (.slice (some (.ext a)) n cap)) (ones (u8s X))) (hk : k ≤ X.length) : Sl A 1 (.one (.slice (some (.ext (a.add k))) (X.length - k) (cap - k))) (ones (u8s (X.drop k))) := by
  obtain ⟨p', cap', e, h2, h3, h4⟩ := h
  simp only [TV.one.injEq, Sc.slice.injEq] at e
  obtain ⟨rfl, _, rfl⟩ := e
  rw [u8s_len] at h2
  have hl : (X.drop k).length = X.length - k := by rw [List.length_drop]
  have hmem : ∀ {i : Nat} {x : List Sc}, (ones (u8s (X.drop k)))[i]? = some x → (ones (u8s X))[k + i]? = some x := fun {i x} hi => by
    simp only [ones, u8s, List.getElem?_map, List.getElem?_drop] at hi ⊢
    exact hi
  refine ⟨some (.ext (a.add k)), cap - k, by rw [u8s_len, hl], ⟨by rw [u8s_len, hl]; omega, by rw [u8s_len, hl]; omega⟩, fun x hx => ?_, ?_, fun i x j s hi hj => ?_⟩
  · obtain ⟨i, hi⟩ := List.getElem?_of_mem hx
    exact h3 x (List.mem_of_getElem? (hmem hi))
  · have := h4.1
    obtain ⟨b, o, s⟩ := a
    simp only at this
    subst this
    rw [addr_off]
  · have := h4.2 (k + i) x j s (hmem hi) hj
    rw [addr_add_add a h4.1, show k + (i * 1 + j) = (k + i) * 1 + j by omega]
    exact this

/-- A slice of nothing. -/
theorem Sl.nil0 {A : Base} {a : Addr} {n cap : Nat} {L : List (List Sc)} (h : Sl A 1 (.one (.slice (some (.ext a)) n cap)) L) : Sl A 1 (.one (.slice (some (.ext a)) 0 0)) (ones (u8s [])) := by
  obtain ⟨p', cap', e, h2, h3, h4⟩ := h
  simp only [TV.one.injEq, Sc.slice.injEq] at e
  obtain ⟨rfl, _, rfl⟩ := e
  exact ⟨some (.ext a), 0, rfl, ⟨Nat.le_refl _, by simp [ones]⟩, fun x hx => (by cases hx), h4.1, fun i x j s hi => by simp [ones] at hi⟩

theorem addr_zero {a : Addr} (h : a.spot = none) : a.add 0 = a := by
  obtain ⟨b, o, s⟩ := a
  simp only at h
  subst h
  rw [addr_off, Nat.add_zero]

/-! ## A Hash -/

def hcells (s : S8) (r : Sc) (n : Nat) : List Sc := s.cells ++ [r, .int .i64 (n : Int)]

theorem begun_fn : Ev.Fn PG f_sha_begun [] (.agg begun8.cells) := by
  refine fn_startH (fun _ => none) h_sha_begun rfl (by kernel_rfl) (fun _ => by kernel_rfl) rfl rfl fun A => ?_
  conv => whnf
  intro c N _ _
  rfl

theorem new_call {A : Base} : CALL PG A f_sha_New [] ⟨[], B0⟩ fun v m' => v = .one (.ptr (some (.loc 0 0))) ∧ ∃ t, m' = ⟨[some ⟨hcells begun8 (.slice none 0 0) 0, t, 0, false⟩], B0⟩ := by
  refine call_start (fun _ => none) h_sha_New rfl (by kernel_rfl) (by kernel_rfl) ?_
  have b := begun_fn
  conv => whnf
  refine ⟨_, b, rfl, ?_⟩
  conv => whnf
  exact ⟨rfl, _, rfl⟩

/-- The state behind j whole pieces. -/
def runP (X : List Int) (s : S8) : Nat → S8
  | 0 => s
  | j + 1 => mix (fun i => ((X.drop (64 * j)).take 64).getD i 0) (runP X s j)

theorem write_ok : ∀ A, okCode (HHo A fun _ => none) F_sha_Hash_Write.ntmps (bodyOf F_sha_Hash_Write) = true := fun _ => by kernel_rfl

def WrI (A : Base) (X : List Int) (s : S8) (n' : Nat) (pre : Mem) (k : Nat) (e : Env) (m : HM) : Prop :=
  ∃ (j t cap : Nat) (p : Option SP) (N : Base), 64 * j ≤ X.length ∧ k = X.length - 64 * j ∧ Sl A 1 (.one (.slice p (X.length - 64 * j) cap)) (ones (u8s (X.drop (64 * j)))) ∧
    e = [(1, .one (.slice p (X.length - 64 * j) cap)), (0, .one (.ptr (some (.loc 0 0))))] ∧ m = ⟨some ⟨hcells (runP X s j) (.slice none 0 0) n', t, 0, false⟩ :: pre, N⟩

/-- What Write leaves of a Hash that had no rest. -/
def WrK (X : List Int) (s : S8) (n' : Nat) (v : TV) (m' : HM) : Prop :=
  v = .tup [] ∧ ((X.length % 64 = 0 ∧ ∃ t N, m' = ⟨[some ⟨hcells (runP X s (X.length / 64)) (.slice none 0 0) n', t, 0, false⟩], N⟩) ∨
    (X.length % 64 ≠ 0 ∧ ∃ t cap N, X.length % 64 ≤ cap ∧ m' = ⟨[some ⟨hcells (runP X s (X.length / 64)) (.slice (some (.loc 1 0)) (X.length % 64) cap) n', t, 0, false⟩, some ⟨u8s (X.drop (64 * (X.length / 64))), t_uint8, cap * 1, true⟩], N⟩))

set_option maxHeartbeats 1000000 in
set_option maxRecDepth 100000 in
theorem write_nil {A : Base} {s : S8} {n t cap : Nat} {p : Option SP} {X : List Int} (hTb : Tab A) (hs : Sl A 1 (.one (.slice p X.length cap)) (ones (u8s X))) (hn : n + X.length < 9223372036854775808) (hX : X.length ≤ 1000000000000) :
    CALL PG A f_sha_Hash_Write [.one (.ptr (some (.loc 0 0))), .one (.slice p X.length cap)] ⟨[some ⟨hcells s (.slice none 0 0) n, t, 0, false⟩], B0⟩ (WrK X s (n + X.length)) := by
  refine call_start (fun _ => none) h_sha_Hash_Write rfl (by kernel_rfl) (write_ok A) ?_
  have hw : wr .i64 ((n : Int) + (X.length : Int)) = .int .i64 ((n + X.length : Nat) : Int) := by
    simp only [wr]
    rw [wrapN (n := n + X.length) (by omega) hn]
  refine swp_cut fun K hK hR _ => ?_
  iterate 6 (refine aops_step fun T S hT hS => ?_; (conv => whnf); refine hT _ _ ?_)
  refine aops_step fun T S hT hS => ?_
  conv => whnf
  rw [hw]
  refine hT _ _ ?_
  iterate 3 (refine aops_step fun T S hT hS => ?_; (conv => whnf); refine hT _ _ ?_)
  refine aops_end ?_
  refine hK _ _ ?_
  clear hK hR
  refine swp_cut fun K hK hR _ => ?_
  conv => whnf
  refine hK _ _ ?_
  clear hK hR
  refine swp_cut fun K hK hR _ => ?_
  conv => whnf
  refine .inr (loop_invC (gH A _) (WrI A X s (n + X.length) []) ?_ ?_)
  · intro k' e' m' hI
    obtain ⟨j, t, cap, p, N, hj, rfl, hs, rfl, rfl⟩ := hI
    obtain ⟨g1, g2, g3⟩ := hs.stable
    conv => whnf
    cases hlt : decide (((X.length - 64 * j : Nat) : Int) ≥ 64) with
    | true =>
      have hlt : 64 ≤ X.length - 64 * j := by have := of_decide_eq_true hlt; omega
      obtain ⟨a, rfl⟩ := sl_ext' hs (by rw [u8s_len, List.length_drop]; omega)
      have hcap : X.length - 64 * j ≤ cap := by
        obtain ⟨p', cap', e, h2, h3, h4⟩ := hs
        simp only [TV.one.injEq, Sc.slice.injEq] at e
        rw [u8s_len, List.length_drop] at h2
        omega
      show swpC _ (Code.seq _ _) _ _ _
      refine swp_cut fun K4 hK4 hR4 _ => ?_
      have hsp : a.spot = none := by
        obtain ⟨p', cap', e, h2, h3, h4⟩ := hs
        simp only [TV.one.injEq, Sc.slice.injEq] at e
        obtain ⟨rfl, _, rfl⟩ := e
        exact h4.1
      have hX1 : (X.drop (64 * j)).length = X.length - 64 * j := List.length_drop
      have d1 : decide (X.length - 64 * j ≤ cap ∧ (0 : Int) ≤ 64 ∧ (64 : Int) ≤ (cap : Int) ∧ (0 : Int) ≤ ((0 : Nat) : Int) ∧ ((0 : Nat) : Int) ≤ 64) = true := decide_eq_true ⟨hcap, by omega, by omega, by omega, by omega⟩
      have hb0 : Nat.beq (((0 : Nat) : Int).toNat) cap = false := by
        cases hh : Nat.beq (((0 : Nat) : Int).toNat) cap with
        | false => rfl
        | true =>
          have : 0 = cap := nbeq.1 hh
          omega
      have cm := fun (s' : S8) (B : Base) (hB : Base.le A B) => mixed_hc (A := B) (s := s') (P := (X.drop (64 * j)).take 64) (by rw [List.length_take]; omega) (ERead_le hB hTb) ((hs.fst (k := 64) (by omega)).mono hB)
      iterate 6 (refine aops_step fun T S hT hS => ?_; (conv => whnf); refine hT _ _ ?_)
      refine aops_step fun T S hT hS => ?_
      conv => whnf
      rw [d1]
      conv => whnf
      rw [hb0]
      conv => whnf
      show T (.one (.slice (some (.ext (a.add 0))) 64 cap)) _
      rw [addr_zero hsp]
      refine hT _ _ ?_
      refine aops_step fun T S hT hS => ?_
      conv => whnf
      refine ⟨fun v _ => v = .agg (runP X s (j + 1)).cells, fun c B hB hL => cm (runP X s j) B (fun r o h => hB r o (.inl h)), ⟨_, B0, rfl, rfl⟩, ?_⟩
      rintro v N' _ rfl N1 _
      refine hT _ _ ?_
      iterate 3 (refine aops_step fun T S hT hS => ?_; (conv => whnf); refine hT _ _ ?_)
      refine aops_end ?_
      refine hK4 _ _ ?_
      clear hK4 hR4
      have hlen : X.length - 64 * j - 64 = X.length - 64 * (j + 1) := by omega
      have hdd : (X.drop (64 * j)).drop 64 = X.drop (64 * (j + 1)) := by rw [List.drop_drop, Nat.mul_succ]
      have d2 : decide (X.length - 64 * j ≤ cap ∧ (0 : Int) ≤ ((X.length - 64 * j : Nat) : Int) ∧ ((X.length - 64 * j : Nat) : Int) ≤ (cap : Int) ∧ (0 : Int) ≤ 64 ∧ (64 : Int) ≤ ((X.length - 64 * j : Nat) : Int)) = true := decide_eq_true ⟨hcap, by omega, by omega, by omega, by omega⟩
      refine aops_step fun T S hT hS => ?_
      conv => whnf
      refine hT _ _ ?_
      refine aops_step fun T S hT hS => ?_
      conv => whnf
      rw [d2]
      conv => whnf
      cases h64 : Nat.beq (Int.toNat 64) cap with
      | true =>
        have h64 : 64 = cap := nbeq.1 h64
        conv => whnf
        show T (.one (.slice (some (.ext a)) (X.length - 64 * j - 64) (cap - 64))) _
        have hs' : Sl A 1 (.one (.slice (some (.ext a)) (X.length - 64 * (j + 1)) (cap - 64))) (ones (u8s (X.drop (64 * (j + 1))))) := by
          have e : X.length - 64 * (j + 1) = 0 := by omega
          rw [e, List.drop_eq_nil_of_le (by omega), ← h64]
          exact hs.nil0
        rw [hlen]
        refine hT _ _ ?_
        refine aops_step fun T S hT hS => ?_
        conv => whnf
        refine hT _ _ ?_
        refine aops_end ?_
        conv => whnf
        refine ⟨X.length - 64 * (j + 1), F0, by omega, fun c N1 _ _ => ⟨_, _, wk_of (by (repeat' apply And.intro) <;> first | trivial | exact ⟨_, rfl, rfl, rfl⟩ | exact ⟨_, rfl, hs'.stable.2.1 _ _, hs'.stable.1 _⟩) (by (repeat' apply And.intro) <;> first | trivial | rfl | exact ⟨_, rfl, rfl, rfl⟩) (by exact Nat.le_of_ble_eq_true rfl) (by exact Nat.le_of_ble_eq_true rfl), ⟨j + 1, t, cap - 64, _, N1, by omega, rfl, hs', rfl, rfl⟩⟩⟩
      | false =>
        have h64 : 64 ≠ cap := fun h => by rw [← h] at h64; cases h64
        conv => whnf
        show T (.one (.slice (some (.ext (a.add 64))) (X.length - 64 * j - 64) (cap - 64))) _
        have hs' : Sl A 1 (.one (.slice (some (.ext (a.add 64))) (X.length - 64 * (j + 1)) (cap - 64))) (ones (u8s (X.drop (64 * (j + 1))))) := by
          have := hs.rest (k := 64) (by omega)
          rw [hX1, hlen, hdd] at this
          exact this
        rw [hlen]
        refine hT _ _ ?_
        refine aops_step fun T S hT hS => ?_
        conv => whnf
        refine hT _ _ ?_
        refine aops_end ?_
        conv => whnf
        refine ⟨X.length - 64 * (j + 1), F0, by omega, fun c N1 _ _ => ⟨_, _, wk_of (by (repeat' apply And.intro) <;> first | trivial | exact ⟨_, rfl, rfl, rfl⟩ | exact ⟨_, rfl, hs'.stable.2.1 _ _, hs'.stable.1 _⟩) (by (repeat' apply And.intro) <;> first | trivial | rfl | exact ⟨_, rfl, rfl, rfl⟩) (by exact Nat.le_of_ble_eq_true rfl) (by exact Nat.le_of_ble_eq_true rfl), ⟨j + 1, t, cap - 64, _, N1, by omega, rfl, hs', rfl, rfl⟩⟩⟩
    | false =>
      conv => whnf
      refine hK _ _ ?_
      clear hK hR
      have hlt : X.length - 64 * j < 64 := by have := of_decide_eq_false hlt; omega
      obtain rfl : j = X.length / 64 := by omega
      have hr : X.length - 64 * (X.length / 64) = X.length % 64 := by omega
      rw [hr] at hs ⊢
      iterate 6 (refine aops_step fun T S hT hS => ?_; (conv => whnf); refine hT _ _ ?_)
      refine aops_step fun T S hT hS => ?_
      conv => whnf
      refine ⟨u8s (X.drop (64 * (X.length / 64))), hs.has (by rw [List.length_map, List.length_drop, hr]), by rw [List.length_map, List.length_drop, Nat.mul_one, hr], rfl, ?_⟩
      conv => whnf
      cases h0 : Nat.beq (X.length % 64) 0 with
      | true =>
        have h0 : X.length % 64 = 0 := nbeq.1 h0
        refine hT _ _ ?_
        iterate 3 (refine aops_step fun T S hT hS => ?_; (conv => whnf); refine hT _ _ ?_)
        refine aops_end ?_
        conv => whnf
        exact ⟨rfl, .inl ⟨h0, t, N, rfl⟩⟩
      | false =>
        have h0 : X.length % 64 ≠ 0 := fun h => by rw [h] at h0; cases h0
        refine ⟨⟨by omega, by omega⟩, by omega, fun cap' hcap' => ?_⟩
        conv => whnf
        refine hT _ _ ?_
        iterate 3 (refine aops_step fun T S hT hS => ?_; (conv => whnf); refine hT _ _ ?_)
        refine aops_end ?_
        conv => whnf
        exact ⟨rfl, .inr ⟨h0, t, cap', N, hcap', rfl⟩⟩
  · refine ⟨X.length, F0, fun c N1 _ _ => ⟨_, _, wk_of (by (repeat' apply And.intro) <;> first | trivial | exact ⟨_, rfl, rfl, rfl⟩ | exact ⟨_, rfl, hs.stable.2.1 _ _, hs.stable.1 _⟩) (by (repeat' apply And.intro) <;> first | trivial | rfl | exact ⟨_, rfl, rfl, rfl⟩) (by exact Nat.le_of_ble_eq_true rfl) (by exact Nat.le_of_ble_eq_true rfl), ⟨0, _, cap, p, N1, by omega, rfl, hs, rfl, rfl⟩⟩⟩

end Go.Hv
