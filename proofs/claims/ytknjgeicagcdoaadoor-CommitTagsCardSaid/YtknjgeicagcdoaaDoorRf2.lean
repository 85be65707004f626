import Derived.Test.YtknjgeicagcdoaaDoorRf1
namespace Go.Hv
open Go.Ev

/-! ## The reference's digest -/

theorem bor_comm (a b : Int) : bor a b = bor b a := by unfold bor; rw [BitVec.or_comm]
theorem bxor_comm (a b : Int) : bxor a b = bxor b a := by unfold bxor; rw [BitVec.xor_comm]

theorem bor_add {a b : Int} (k : Nat) (ha : 0 ≤ a) (ha2 : a < 2 ^ k) (hb : 0 ≤ b) (hs : a + 2 ^ k * b < 4294967296) : bor (2 ^ k * b) a = 2 ^ k * b + a := by
  obtain ⟨a, rfl⟩ := Int.eq_ofNat_of_zero_le ha
  obtain ⟨b, rfl⟩ := Int.eq_ofNat_of_zero_le hb
  have ha3 : a < 2 ^ k := by exact_mod_cast ha2
  have e : (2 ^ k * (b : Int)) = ((2 ^ k * b : Nat) : Int) := by rw [Int.natCast_mul, Int.natCast_pow]; rfl
  have hs2 : a + 2 ^ k * b < 4294967296 := by rw [e] at hs; generalize 2 ^ k * b = t at *; omega
  unfold bor
  change IntKind.u32.wrap (BitVec.ofInt 32 _ ||| BitVec.ofInt 32 _).toNat = _
  rw [e, BitVec.ofInt_natCast, BitVec.ofInt_natCast]
  simp only [BitVec.toNat_or, BitVec.toNat_ofNat]
  rw [Nat.mod_eq_of_lt (by generalize 2 ^ k * b = t at *; omega), Nat.mod_eq_of_lt (by generalize 2 ^ k * b = t at *; omega), ← Nat.two_pow_add_eq_or_of_lt ha3]
  simp only [IntKind.wrap, IntKind.signed, IntKind.bits]
  generalize 2 ^ k * b = t at *
  simp
  omega

theorem word4_add {a b c d : Int} (ha : 0 ≤ a ∧ a < 256) (hb : 0 ≤ b ∧ b < 256) (hc : 0 ≤ c ∧ c < 256) (hd : 0 ≤ d ∧ d < 256) :
    wadd (wadd (wadd (a % 4294967296 * 16777216 % 4294967296) (b % 4294967296 * 65536 % 4294967296)) (c % 4294967296 * 256 % 4294967296)) (d % 4294967296) = word4 a b c d := by
  have e1 : a % 4294967296 * 2 ^ 24 % 4294967296 = 2 ^ 24 * a := by omega
  have e2 : b % 4294967296 * 2 ^ 16 % 4294967296 = 65536 * b := by omega
  have e3 : c % 4294967296 * 2 ^ 8 % 4294967296 = 256 * c := by omega
  have e4 : d % 4294967296 = d := by omega
  unfold word4
  rw [e1, e2, e3, e4, bor_add 24 (by omega) (by omega) ha.1 (by omega)]
  rw [show (2 : Int) ^ 24 * a + 65536 * b = 2 ^ 16 * (256 * a + b) by omega, bor_add 16 (by omega) (by omega) (by omega) (by omega)]
  rw [show (2 : Int) ^ 16 * (256 * a + b) + 256 * c = 2 ^ 8 * (65536 * a + 256 * b + c) by omega, bor_add 8 (by omega) (by omega) (by omega) (by omega)]
  unfold wadd
  omega

theorem rrot_ok : ∀ A, okCode (HHo A fun _ => none) F_ref01_rot.ntmps (bodyOf F_ref01_rot) = true := fun _ => by kernel_rfl

theorem rrot7_fn {x : Int} : Ev.Fn PG f_ref01_rot [.one (w32 x), .one (.int .i64 7)] (.one (w32 (rotw 25 x))) := by
  refine fn_startH (fun _ => none) h_ref01_rot rfl (by kernel_rfl) rrot_ok rfl rfl fun A => ?_
  have hc : rotw 25 x = bor (x.fdiv (2 ^ 7)) (x * 2 ^ 25 % 4294967296) := by unfold rotw; rw [bor_comm]
  rw [hc]
  refine swp_cut fun K hK hR _ => ?_
  conv => whnf
  refine hK _ _ ?_
  clear hK hR
  refine swp_cut fun K hK hR _ => ?_
  conv => whnf
  refine hK _ _ ?_
  conv => whnf
  intro c N _ _
  rfl

theorem rrot18_fn {x : Int} : Ev.Fn PG f_ref01_rot [.one (w32 x), .one (.int .i64 18)] (.one (w32 (rotw 14 x))) := by
  refine fn_startH (fun _ => none) h_ref01_rot rfl (by kernel_rfl) rrot_ok rfl rfl fun A => ?_
  have hc : rotw 14 x = bor (x.fdiv (2 ^ 18)) (x * 2 ^ 14 % 4294967296) := by unfold rotw; rw [bor_comm]
  rw [hc]
  refine swp_cut fun K hK hR _ => ?_
  conv => whnf
  refine hK _ _ ?_
  clear hK hR
  refine swp_cut fun K hK hR _ => ?_
  conv => whnf
  refine hK _ _ ?_
  conv => whnf
  intro c N _ _
  rfl

theorem rrot17_fn {x : Int} : Ev.Fn PG f_ref01_rot [.one (w32 x), .one (.int .i64 17)] (.one (w32 (rotw 15 x))) := by
  refine fn_startH (fun _ => none) h_ref01_rot rfl (by kernel_rfl) rrot_ok rfl rfl fun A => ?_
  have hc : rotw 15 x = bor (x.fdiv (2 ^ 17)) (x * 2 ^ 15 % 4294967296) := by unfold rotw; rw [bor_comm]
  rw [hc]
  refine swp_cut fun K hK hR _ => ?_
  conv => whnf
  refine hK _ _ ?_
  clear hK hR
  refine swp_cut fun K hK hR _ => ?_
  conv => whnf
  refine hK _ _ ?_
  conv => whnf
  intro c N _ _
  rfl

theorem rrot19_fn {x : Int} : Ev.Fn PG f_ref01_rot [.one (w32 x), .one (.int .i64 19)] (.one (w32 (rotw 13 x))) := by
  refine fn_startH (fun _ => none) h_ref01_rot rfl (by kernel_rfl) rrot_ok rfl rfl fun A => ?_
  have hc : rotw 13 x = bor (x.fdiv (2 ^ 19)) (x * 2 ^ 13 % 4294967296) := by unfold rotw; rw [bor_comm]
  rw [hc]
  refine swp_cut fun K hK hR _ => ?_
  conv => whnf
  refine hK _ _ ?_
  clear hK hR
  refine swp_cut fun K hK hR _ => ?_
  conv => whnf
  refine hK _ _ ?_
  conv => whnf
  intro c N _ _
  rfl

theorem rrot6_fn {x : Int} : Ev.Fn PG f_ref01_rot [.one (w32 x), .one (.int .i64 6)] (.one (w32 (rotw 26 x))) := by
  refine fn_startH (fun _ => none) h_ref01_rot rfl (by kernel_rfl) rrot_ok rfl rfl fun A => ?_
  have hc : rotw 26 x = bor (x.fdiv (2 ^ 6)) (x * 2 ^ 26 % 4294967296) := by unfold rotw; rw [bor_comm]
  rw [hc]
  refine swp_cut fun K hK hR _ => ?_
  conv => whnf
  refine hK _ _ ?_
  clear hK hR
  refine swp_cut fun K hK hR _ => ?_
  conv => whnf
  refine hK _ _ ?_
  conv => whnf
  intro c N _ _
  rfl

theorem rrot11_fn {x : Int} : Ev.Fn PG f_ref01_rot [.one (w32 x), .one (.int .i64 11)] (.one (w32 (rotw 21 x))) := by
  refine fn_startH (fun _ => none) h_ref01_rot rfl (by kernel_rfl) rrot_ok rfl rfl fun A => ?_
  have hc : rotw 21 x = bor (x.fdiv (2 ^ 11)) (x * 2 ^ 21 % 4294967296) := by unfold rotw; rw [bor_comm]
  rw [hc]
  refine swp_cut fun K hK hR _ => ?_
  conv => whnf
  refine hK _ _ ?_
  clear hK hR
  refine swp_cut fun K hK hR _ => ?_
  conv => whnf
  refine hK _ _ ?_
  conv => whnf
  intro c N _ _
  rfl

theorem rrot25_fn {x : Int} : Ev.Fn PG f_ref01_rot [.one (w32 x), .one (.int .i64 25)] (.one (w32 (rotw 7 x))) := by
  refine fn_startH (fun _ => none) h_ref01_rot rfl (by kernel_rfl) rrot_ok rfl rfl fun A => ?_
  have hc : rotw 7 x = bor (x.fdiv (2 ^ 25)) (x * 2 ^ 7 % 4294967296) := by unfold rotw; rw [bor_comm]
  rw [hc]
  refine swp_cut fun K hK hR _ => ?_
  conv => whnf
  refine hK _ _ ?_
  clear hK hR
  refine swp_cut fun K hK hR _ => ?_
  conv => whnf
  refine hK _ _ ?_
  conv => whnf
  intro c N _ _
  rfl

theorem rrot2_fn {x : Int} : Ev.Fn PG f_ref01_rot [.one (w32 x), .one (.int .i64 2)] (.one (w32 (rotw 30 x))) := by
  refine fn_startH (fun _ => none) h_ref01_rot rfl (by kernel_rfl) rrot_ok rfl rfl fun A => ?_
  have hc : rotw 30 x = bor (x.fdiv (2 ^ 2)) (x * 2 ^ 30 % 4294967296) := by unfold rotw; rw [bor_comm]
  rw [hc]
  refine swp_cut fun K hK hR _ => ?_
  conv => whnf
  refine hK _ _ ?_
  clear hK hR
  refine swp_cut fun K hK hR _ => ?_
  conv => whnf
  refine hK _ _ ?_
  conv => whnf
  intro c N _ _
  rfl

theorem rrot13_fn {x : Int} : Ev.Fn PG f_ref01_rot [.one (w32 x), .one (.int .i64 13)] (.one (w32 (rotw 19 x))) := by
  refine fn_startH (fun _ => none) h_ref01_rot rfl (by kernel_rfl) rrot_ok rfl rfl fun A => ?_
  have hc : rotw 19 x = bor (x.fdiv (2 ^ 13)) (x * 2 ^ 19 % 4294967296) := by unfold rotw; rw [bor_comm]
  rw [hc]
  refine swp_cut fun K hK hR _ => ?_
  conv => whnf
  refine hK _ _ ?_
  clear hK hR
  refine swp_cut fun K hK hR _ => ?_
  conv => whnf
  refine hK _ _ ?_
  conv => whnf
  intro c N _ _
  rfl

theorem rrot22_fn {x : Int} : Ev.Fn PG f_ref01_rot [.one (w32 x), .one (.int .i64 22)] (.one (w32 (rotw 10 x))) := by
  refine fn_startH (fun _ => none) h_ref01_rot rfl (by kernel_rfl) rrot_ok rfl rfl fun A => ?_
  have hc : rotw 10 x = bor (x.fdiv (2 ^ 22)) (x * 2 ^ 10 % 4294967296) := by unfold rotw; rw [bor_comm]
  rw [hc]
  refine swp_cut fun K hK hR _ => ?_
  conv => whnf
  refine hK _ _ ?_
  clear hK hR
  refine swp_cut fun K hK hR _ => ?_
  conv => whnf
  refine hK _ _ ?_
  conv => whnf
  intro c N _ _
  rfl


theorem tab_one {A : Base} {g : Nat} (h : ERead A true 64 ⟨g, 0, none⟩ (.agg (tabK.map w32))) {t : Nat} (ht : t < 64) : ERead A false 1 ((⟨g, 0, none⟩ : Addr).add (t * 1)) (.one (w32 (tabK.getD t 0))) := by
  obtain ⟨l, h1, h2, h3, h4⟩ := h
  obtain rfl := TV.agg.inj h4
  have hl : (tabK.map w32)[t]? = some (w32 (tabK.getD t 0)) := by
    rw [List.getElem?_map, List.getD_eq_getElem?_getD, List.getElem?_eq_getElem (show t < tabK.length from ht)]
    rfl
  have := h2 t _ hl
  rw [Nat.mul_one]
  exact ⟨_, this, rfl, rfl⟩

/-- The reference's table, in memory that nobody writes. -/
def Tab0 (A : Base) : Prop := ERead A true 64 ⟨g_ref01_table, 0, none⟩ (.agg (tabK.map w32))

/-- The piece j of a text. -/
def pcL (P : List Int) (j : Nat) (i : Nat) : Int := ((P.drop (64 * j)).take 64).getD i 0

theorem pcL_take (P : List Int) {j i : Nat} (h : i < 64) (hl : 64 * j + i < P.length) : takeAt (u8s P) (0 + (64 * j + i) * 1) 1 = some [.int .u8 (pcL P j i)] := by
  rw [u8_take P hl]
  unfold pcL
  rw [List.getD_eq_getElem?_getD, List.getElem?_take_of_lt h, List.getElem?_drop, List.getElem?_eq_getElem hl]
  rfl

theorem pcL_u8 {P : List Int} (hP : ∀ z ∈ P, 0 ≤ z ∧ z < 256) (j i : Nat) : 0 ≤ pcL P j i ∧ pcL P j i < 256 := by
  unfold pcL
  rw [List.getD_eq_getElem?_getD]
  cases h : ((P.drop (64 * j)).take 64)[i]? with
  | none => exact ⟨by decide, by decide⟩
  | some z => exact hP z (List.mem_of_mem_drop (List.mem_of_mem_take (List.mem_of_getElem? h)))

def OfI (P : List Int) (k : Nat) (e : Env) (m : HM) : Prop :=
  ∃ (j t0 t2 g cap : Nat) (N : Base), 64 * j ≤ P.length ∧ k = P.length - 64 * j ∧
    e = [(5, .one (.int .i64 ((64 * j : Nat) : Int))), (4, .one (.ptr (some (.loc 2 0)))), (3, .one (.slice (some (.loc 1 0)) P.length cap)), (2, .one (.ptr (some (.loc 0 0))))] ∧ m = ⟨[d0 t0, some ⟨u8s P, t_uint8, g, true⟩, some ⟨(runP P begun8 j).cells, t2, 0, false⟩], N⟩

def OfI1 (P : List Int) (s : S8) (j : Nat) (k : Nat) (e : Env) (m : HM) : Prop :=
  ∃ (t t0 t2 t3 g cap : Nat) (N : Base), t ≤ 16 ∧ k = 16 - t ∧
    e = [(7, .one (.int .i64 (t : Int))), (6, .one (.ptr (some (.loc 3 0)))), (5, .one (.int .i64 ((64 * j : Nat) : Int))), (4, .one (.ptr (some (.loc 2 0)))), (3, .one (.slice (some (.loc 1 0)) P.length cap)), (2, .one (.ptr (some (.loc 0 0))))] ∧ m = ⟨[d0 t0, some ⟨u8s P, t_uint8, g, true⟩, some ⟨s.cells, t2, 0, false⟩, some ⟨wrow (pcL P j) t, t3, 0, false⟩], N⟩

def OfI2 (P : List Int) (s : S8) (j : Nat) (k : Nat) (e : Env) (m : HM) : Prop :=
  ∃ (t t0 t2 t3 g cap : Nat) (N : Base), 16 ≤ t ∧ t ≤ 64 ∧ k = 64 - t ∧
    e = [(8, .one (.int .i64 (t : Int))), (6, .one (.ptr (some (.loc 3 0)))), (5, .one (.int .i64 ((64 * j : Nat) : Int))), (4, .one (.ptr (some (.loc 2 0)))), (3, .one (.slice (some (.loc 1 0)) P.length cap)), (2, .one (.ptr (some (.loc 0 0))))] ∧ m = ⟨[d0 t0, some ⟨u8s P, t_uint8, g, true⟩, some ⟨s.cells, t2, 0, false⟩, some ⟨wrow (pcL P j) t, t3, 0, false⟩], N⟩

def OfI3 (P : List Int) (s : S8) (j : Nat) (k : Nat) (e : Env) (m : HM) : Prop :=
  ∃ (t t0 t2 t3 t4 g cap : Nat) (N : Base), t ≤ 64 ∧ k = 64 - t ∧
    e = [(12, .one (.int .i64 (t : Int))), (11, .one (.ptr (some (.loc 4 0)))), (6, .one (.ptr (some (.loc 3 0)))), (5, .one (.int .i64 ((64 * j : Nat) : Int))), (4, .one (.ptr (some (.loc 2 0)))), (3, .one (.slice (some (.loc 1 0)) P.length cap)), (2, .one (.ptr (some (.loc 0 0))))] ∧
    m = ⟨[d0 t0, some ⟨u8s P, t_uint8, g, true⟩, some ⟨s.cells, t2, 0, false⟩, some ⟨wrow (pcL P j) 64, t3, 0, false⟩, some ⟨(rounds (pcL P j) s t).cells, t4, 0, false⟩], N⟩

def OfI5 (s : S8) (k : Nat) (e : Env) (m : HM) : Prop :=
  ∃ (i t0 t2 t3 : Nat) (N : Base), i ≤ 32 ∧ k = 32 - i ∧
    e = [(18, .one (.int .i64 (i : Int))), (17, .one (.ptr (some (.loc 3 0)))), (4, .one (.ptr (some (.loc 2 0)))), (2, .one (.ptr (some (.loc 0 0))))] ∧ m = ⟨[d0 t0, none, some ⟨s.cells, t2, 0, false⟩, some ⟨drow s i, t3, 0, false⟩], N⟩

theorem drow_put1 (s : S8) {i : Nat} (hi : i < 32) : putAt (drow s i) (0 + i * 1) [.int .u8 ((s.get (i / 4)).fdiv (2 ^ (min (24 - 8 * (i % 4)) 32)) % 256)] = some (drow s (i + 1)) := by
  refine rowPut (by rw [List.length_map, dgl_len]) hi ?_
  simp only [u8s, dgl, List.getElem?_map, List.getElem?_range hi, Option.map_some]

theorem get_take0 (s : S8) {i : Nat} (hi : i < 8) : takeAt s.cells (0 + i * 1) 1 = some [w32 (s.get i)] := by
  rw [Nat.zero_add]
  exact get_take s hi

theorem ofr_ok : ∀ A, okCode (HHo A fun _ => none) F_ref01_Of.ntmps (bodyOf F_ref01_Of) = true := fun _ => by kernel_rfl

set_option maxHeartbeats 4000000 in
set_option maxRecDepth 100000 in
theorem ofr_hc {A : Base} {q : TV} {X : List Int} (hTb : Tab0 A) (hs : Sl A 1 q (ones (u8s X))) (hX : X.length ≤ 1000000000000) (hX8 : ∀ z ∈ X, 0 ≤ z ∧ z < 256) : HC PG A f_ref01_Of [q] fun v _ => v = .agg (u8s (shaD X)) := by
  refine hc_start (fun _ => none) h_ref01_Of rfl (by kernel_rfl) (ofr_ok A) (closedTs_iff.2 fun v hv => by
    simp only [List.mem_singleton] at hv
    subst hv
    exact hs.stable.1 0) ?_
  have hPl := padL_len X
  have hP64 := padL_64 X
  have hPm : (padL X).length ≤ 1000000000200 := by rw [hPl]; unfold zc; omega
  have hP8 : ∀ z ∈ padL X, 0 ≤ z ∧ z < 256 := fun z hz => by
    unfold padL C1 at hz
    simp only [List.mem_append, List.mem_singleton, List.mem_replicate] at hz
    rcases hz with ((hz | rfl) | ⟨_, rfl⟩) | hz
    · exact hX8 z hz
    · decide
    · decide
    · obtain ⟨i, _, rfl⟩ := List.mem_map.1 hz
      unfold bt
      omega
  have cp := fun (B : Base) (hB : Base.le A B) => padded_hco (hs.mono hB) hX
  rw [← pad_sha X]
  clear hPl
  generalize padL X = P at *
  refine swp_cut fun K hK hR _ => ?_
  conv => whnf
  refine hK _ _ ?_
  clear hK hR
  refine swp_cut fun K hK hR _ => ?_
  refine aops_step fun T S hT hS => ?_
  conv => whnf
  refine hT _ _ ?_
  refine aops_step fun T S hT hS => ?_
  conv => whnf
  refine ⟨fun n cap k _ => n = P.length ∧ P.length ≤ cap ∧ k = ⟨u8s P, t_uint8, cap * 1, true⟩, fun c B hB hL => by
    have := cp B (fun r o h => hB r o (.inl h))
    show HCO PG B f_ref01_Padded [TV.ext c q] _
    rw [hs.stable.2.2 c]
    exact this, ⟨P.length, P.length, ⟨u8s P, t_uint8, P.length * 1, true⟩, B0, ints_cl _ _ 0, rfl, Nat.le_refl _, rfl⟩, ?_⟩
  rintro n cap k N' _ ⟨rfl, hcap, rfl⟩ N1 _
  conv => whnf
  refine hT _ _ ?_
  refine aops_step fun T S hT hS => ?_
  conv => whnf
  refine hT _ _ ?_
  refine aops_end ?_
  refine hK _ _ ?_
  clear hK hR
  refine swp_cut fun K hK hR _ => ?_
  conv => whnf
  refine hK _ _ ?_
  clear hK hR
  refine swp_cut fun K hK hR _ => ?_
  refine swp_cut fun K2 hK2 hR2 _ => ?_
  conv => whnf
  refine hK2 _ _ ?_
  clear hK2 hR2
  conv => whnf
  refine .inr (loop_invC (gH A _) (OfI P) ?_ ?_)
  · intro k' e' m' hI
    obtain ⟨j, t0, t2, g, cap, N, hj, rfl, rfl, rfl⟩ := hI
    conv => whnf
    cases hlt : decide (((64 * j : Nat) : Int) < (P.length : Int)) with
    | true =>
      have hjl : 64 * j + 64 ≤ P.length := by have := of_decide_eq_true hlt; omega
      have hmix : runP P begun8 (j + 1) = mix (pcL P j) (runP P begun8 j) := rfl
      generalize hsj : runP P begun8 j = s at *
      show swpC _ (Code.seq _ _) _ _ _
      refine swp_cut fun K6 hK6 hR6 _ => ?_
      refine swp_block ?_
      refine swp_cut fun K hK hR _ => ?_
      conv => whnf
      refine hK _ _ ?_
      clear hK hR
      refine swp_cut fun K7 hK7 hR7 _ => ?_
      refine swp_cut fun K2 hK2 hR2 _ => ?_
      conv => whnf
      refine hK2 _ _ ?_
      clear hK2 hR2
      conv => whnf
      refine .inr (loop_invC (gH A _) (OfI1 P s j) ?_ ?_)
      · intro k' e' m' hI
        obtain ⟨t, t0, t2, t3, g, cap, N, ht16, rfl, rfl, rfl⟩ := hI
        conv => whnf
        cases hlt : decide ((t : Int) < 16) with
        | true =>
          have ht : t < 16 := by have := of_decide_eq_true hlt; omega
          show swpC _ (Code.seq _ _) _ _ _
          refine swp_cut fun K4 hK4 hR4 _ => ?_
          refine swp_block ?_
          have e4 : wr .i64 (4 * (t : Int)) = .int .i64 ((4 * t : Nat) : Int) := by
            simp only [wr]
            rw [wrapN (n := 4 * t) (by omega) (by omega)]
          have ea : wr .i64 (((64 * j : Nat) : Int) + ((4 * t : Nat) : Int)) = .int .i64 ((64 * j + 4 * t : Nat) : Int) := by
            simp only [wr]
            rw [wrapN (n := 64 * j + 4 * t) (by omega) (by omega)]
          have ea1 : wr .i64 (((64 * j + 4 * t : Nat) : Int) + 1) = .int .i64 ((64 * j + (4 * t + 1) : Nat) : Int) := by
            simp only [wr]
            rw [wrapN (n := 64 * j + (4 * t + 1)) (by omega) (by omega)]
          have ea2 : wr .i64 (((64 * j + 4 * t : Nat) : Int) + 2) = .int .i64 ((64 * j + (4 * t + 2) : Nat) : Int) := by
            simp only [wr]
            rw [wrapN (n := 64 * j + (4 * t + 2)) (by omega) (by omega)]
          have ea3 : wr .i64 (((64 * j + 4 * t : Nat) : Int) + 3) = .int .i64 ((64 * j + (4 * t + 3) : Nat) : Int) := by
            simp only [wr]
            rw [wrapN (n := 64 * j + (4 * t + 3)) (by omega) (by omega)]
          have b0 : 64 * j + 4 * t < P.length := by omega
          have b1 : 64 * j + (4 * t + 1) < P.length := by omega
          have b2 : 64 * j + (4 * t + 2) < P.length := by omega
          have b3 : 64 * j + (4 * t + 3) < P.length := by omega
          have hw4 := word4_add (pcL_u8 hP8 j (4 * t)) (pcL_u8 hP8 j (4 * t + 1)) (pcL_u8 hP8 j (4 * t + 2)) (pcL_u8 hP8 j (4 * t + 3))
          have ht64 : t < 64 := by omega
          iterate 4 (refine aops_step fun T S hT hS => ?_; (conv => whnf); refine hT _ _ ?_)
          refine aops_step fun T S hT hS => ?_
          conv => whnf
          rw [e4]
          refine hT _ _ ?_
          refine aops_step fun T S hT hS => ?_
          conv => whnf
          rw [ea]
          refine hT _ _ ?_
          refine aops_step fun T S hT hS => ?_
          conv => whnf
          rw [dec_idx (n := P.length) b0]
          conv => whnf
          refine hT _ _ ?_
          refine aops_step fun T S hT hS => ?_
          conv => whnf
          conv in (takeAt _ _ _) => change takeAt (u8s P) (0 + (64 * j + 4 * t) * 1) 1; rw [pcL_take P (by omega) b0]
          conv => whnf
          refine hT _ _ ?_
          iterate 5 (refine aops_step fun T S hT hS => ?_; (conv => whnf); refine hT _ _ ?_)
          refine aops_step fun T S hT hS => ?_
          conv => whnf
          rw [e4]
          refine hT _ _ ?_
          refine aops_step fun T S hT hS => ?_
          conv => whnf
          rw [ea]
          refine hT _ _ ?_
          refine aops_step fun T S hT hS => ?_
          conv => whnf
          rw [ea1]
          refine hT _ _ ?_
          refine aops_step fun T S hT hS => ?_
          conv => whnf
          rw [dec_idx (n := P.length) b1]
          conv => whnf
          refine hT _ _ ?_
          refine aops_step fun T S hT hS => ?_
          conv => whnf
          conv in (takeAt _ _ _) => change takeAt (u8s P) (0 + (64 * j + (4 * t + 1)) * 1) 1; rw [pcL_take P (by omega) b1]
          conv => whnf
          refine hT _ _ ?_
          iterate 6 (refine aops_step fun T S hT hS => ?_; (conv => whnf); refine hT _ _ ?_)
          refine aops_step fun T S hT hS => ?_
          conv => whnf
          rw [e4]
          refine hT _ _ ?_
          refine aops_step fun T S hT hS => ?_
          conv => whnf
          rw [ea]
          refine hT _ _ ?_
          refine aops_step fun T S hT hS => ?_
          conv => whnf
          rw [ea2]
          refine hT _ _ ?_
          refine aops_step fun T S hT hS => ?_
          conv => whnf
          rw [dec_idx (n := P.length) b2]
          conv => whnf
          refine hT _ _ ?_
          refine aops_step fun T S hT hS => ?_
          conv => whnf
          conv in (takeAt _ _ _) => change takeAt (u8s P) (0 + (64 * j + (4 * t + 2)) * 1) 1; rw [pcL_take P (by omega) b2]
          conv => whnf
          refine hT _ _ ?_
          iterate 6 (refine aops_step fun T S hT hS => ?_; (conv => whnf); refine hT _ _ ?_)
          refine aops_step fun T S hT hS => ?_
          conv => whnf
          rw [e4]
          refine hT _ _ ?_
          refine aops_step fun T S hT hS => ?_
          conv => whnf
          rw [ea]
          refine hT _ _ ?_
          refine aops_step fun T S hT hS => ?_
          conv => whnf
          rw [ea3]
          refine hT _ _ ?_
          refine aops_step fun T S hT hS => ?_
          conv => whnf
          rw [dec_idx (n := P.length) b3]
          conv => whnf
          refine hT _ _ ?_
          refine aops_step fun T S hT hS => ?_
          conv => whnf
          conv in (takeAt _ _ _) => change takeAt (u8s P) (0 + (64 * j + (4 * t + 3)) * 1) 1; rw [pcL_take P (by omega) b3]
          conv => whnf
          refine hT _ _ ?_
          iterate 2 (refine aops_step fun T S hT hS => ?_; (conv => whnf); refine hT _ _ ?_)
          refine aops_step fun T S hT hS => ?_
          conv => whnf
          rw [dec_idx (n := 64) ht64]
          conv => whnf
          refine hT _ _ ?_
          refine aops_step fun T S hT hS => ?_
          conv => whnf
          conv in (putAt _ _ _) => change putAt (wrow (pcL P j) t) (0 + t * 1) [w32 (wadd (wadd (wadd (pcL P j (4 * t) % 4294967296 * 16777216 % 4294967296) (pcL P j (4 * t + 1) % 4294967296 * 65536 % 4294967296)) (pcL P j (4 * t + 2) % 4294967296 * 256 % 4294967296)) (pcL P j (4 * t + 3) % 4294967296))]; rw [hw4, ← Wd_lo (pcL P j) ht, wrow_put (pcL P j) ht64]
          conv => whnf
          refine hT _ _ ?_
          refine aops_end ?_
          refine hK4 _ _ ?_
          clear hK4 hR4
          conv => whnf
          refine ⟨16 - (t + 1), F0, by omega, fun c N1 _ _ => ⟨_, _, wk_of (by (repeat' apply And.intro) <;> first | trivial | exact ⟨_, rfl, tv_inc (n := 16) ht (by omega), rfl⟩ | exact ⟨_, rfl, rfl, rfl⟩) (by (repeat' apply And.intro) <;> first | trivial | rfl | exact ⟨_, rfl, wrow_blk (pcL P j) (t + 1) _ _ _, wrow_cl (pcL P j) (t + 1) _⟩ | exact ⟨_, rfl, u8_blk _ _ _ _ _ _, ints_cl _ _ _⟩ | exact ⟨_, rfl, rfl, rfl⟩) (by exact Nat.le_of_ble_eq_true rfl) (by exact Nat.le_of_ble_eq_true rfl), ⟨t + 1, t0, t2, t3, g, cap, N1, ht, rfl, rfl, rfl⟩⟩⟩
        | false =>
          obtain rfl : t = 16 := by have := of_decide_eq_false hlt; omega
          conv => whnf
          refine hK7 _ _ ?_
          clear hK7 hR7
          refine swp_cut fun K7 hK7 hR7 _ => ?_
          refine swp_cut fun K2 hK2 hR2 _ => ?_
          conv => whnf
          refine hK2 _ _ ?_
          clear hK2 hR2
          conv => whnf
          refine .inr (loop_invC (gH A _) (OfI2 P s j) ?_ ?_)
          · intro k' e' m' hI
            obtain ⟨t, t0, t2, t3, g, cap, N, ht16, ht64, rfl, rfl, rfl⟩ := hI
            conv => whnf
            cases hlt : decide ((t : Int) < 64) with
            | true =>
              have ht : t < 64 := by have := of_decide_eq_true hlt; omega
              have hge : ¬ t < 16 := by omega
              have e15 : wr .i64 ((t : Int) - 15) = .int .i64 ((t - 15 : Nat) : Int) := by
                simp only [wr]
                rw [wrapN (n := t - 15) (by omega) (by omega)]
              have h15 : t - 15 < 64 := by omega
              have l15 : t - 15 < t := by omega
              have e2 : wr .i64 ((t : Int) - 2) = .int .i64 ((t - 2 : Nat) : Int) := by
                simp only [wr]
                rw [wrapN (n := t - 2) (by omega) (by omega)]
              have h2 : t - 2 < 64 := by omega
              have l2 : t - 2 < t := by omega
              have e16 : wr .i64 ((t : Int) - 16) = .int .i64 ((t - 16 : Nat) : Int) := by
                simp only [wr]
                rw [wrapN (n := t - 16) (by omega) (by omega)]
              have h16 : t - 16 < 64 := by omega
              have l16 : t - 16 < t := by omega
              have e7 : wr .i64 ((t : Int) - 7) = .int .i64 ((t - 7 : Nat) : Int) := by
                simp only [wr]
                rw [wrapN (n := t - 7) (by omega) (by omega)]
              have h7 : t - 7 < 64 := by omega
              have l7 : t - 7 < t := by omega
              show swpC _ (Code.seq _ _) _ _ _
              refine swp_cut fun K4 hK4 hR4 _ => ?_
              refine swp_block ?_
              refine swp_cut fun K3 hK3 hR3 _ => ?_
              refine aops_step fun T S hT hS => ?_
              conv => whnf
              refine hT _ _ ?_
              refine aops_step fun T S hT hS => ?_
              conv => whnf
              rw [e15]
              refine hT _ _ ?_
              refine aops_step fun T S hT hS => ?_
              conv => whnf
              rw [dec_idx (n := 64) h15]
              conv => whnf
              refine hT _ _ ?_
              refine aops_step fun T S hT hS => ?_
              conv => whnf
              conv in (takeAt _ _ _) => change takeAt (wrow (pcL P j) t) (0 + (t - 15) * 1) 1; rw [wrow_take (pcL P j) l15 ht64]
              conv => whnf
              refine hT _ _ ?_
              refine aops_step fun T S hT hS => ?_
              conv => whnf
              refine ⟨_, rrot7_fn, rfl, ?_⟩
              refine hT _ _ ?_
              refine aops_step fun T S hT hS => ?_
              conv => whnf
              refine hT _ _ ?_
              refine aops_step fun T S hT hS => ?_
              conv => whnf
              rw [e15]
              refine hT _ _ ?_
              refine aops_step fun T S hT hS => ?_
              conv => whnf
              rw [dec_idx (n := 64) h15]
              conv => whnf
              refine hT _ _ ?_
              refine aops_step fun T S hT hS => ?_
              conv => whnf
              conv in (takeAt _ _ _) => change takeAt (wrow (pcL P j) t) (0 + (t - 15) * 1) 1; rw [wrow_take (pcL P j) l15 ht64]
              conv => whnf
              refine hT _ _ ?_
              refine aops_step fun T S hT hS => ?_
              conv => whnf
              refine ⟨_, rrot18_fn, rfl, ?_⟩
              refine hT _ _ ?_
              iterate 2 (refine aops_step fun T S hT hS => ?_; (conv => whnf); refine hT _ _ ?_)
              refine aops_step fun T S hT hS => ?_
              conv => whnf
              rw [e15]
              refine hT _ _ ?_
              refine aops_step fun T S hT hS => ?_
              conv => whnf
              rw [dec_idx (n := 64) h15]
              conv => whnf
              refine hT _ _ ?_
              refine aops_step fun T S hT hS => ?_
              conv => whnf
              conv in (takeAt _ _ _) => change takeAt (wrow (pcL P j) t) (0 + (t - 15) * 1) 1; rw [wrow_take (pcL P j) l15 ht64]
              conv => whnf
              refine hT _ _ ?_
              iterate 3 (refine aops_step fun T S hT hS => ?_; (conv => whnf); refine hT _ _ ?_)
              refine aops_end ?_
              refine hK3 _ _ ?_
              clear hK3 hR3
              refine swp_cut fun K3 hK3 hR3 _ => ?_
              refine aops_step fun T S hT hS => ?_
              conv => whnf
              refine hT _ _ ?_
              refine aops_step fun T S hT hS => ?_
              conv => whnf
              rw [e2]
              refine hT _ _ ?_
              refine aops_step fun T S hT hS => ?_
              conv => whnf
              rw [dec_idx (n := 64) h2]
              conv => whnf
              refine hT _ _ ?_
              refine aops_step fun T S hT hS => ?_
              conv => whnf
              conv in (takeAt _ _ _) => change takeAt (wrow (pcL P j) t) (0 + (t - 2) * 1) 1; rw [wrow_take (pcL P j) l2 ht64]
              conv => whnf
              refine hT _ _ ?_
              refine aops_step fun T S hT hS => ?_
              conv => whnf
              refine ⟨_, rrot17_fn, rfl, ?_⟩
              refine hT _ _ ?_
              refine aops_step fun T S hT hS => ?_
              conv => whnf
              refine hT _ _ ?_
              refine aops_step fun T S hT hS => ?_
              conv => whnf
              rw [e2]
              refine hT _ _ ?_
              refine aops_step fun T S hT hS => ?_
              conv => whnf
              rw [dec_idx (n := 64) h2]
              conv => whnf
              refine hT _ _ ?_
              refine aops_step fun T S hT hS => ?_
              conv => whnf
              conv in (takeAt _ _ _) => change takeAt (wrow (pcL P j) t) (0 + (t - 2) * 1) 1; rw [wrow_take (pcL P j) l2 ht64]
              conv => whnf
              refine hT _ _ ?_
              refine aops_step fun T S hT hS => ?_
              conv => whnf
              refine ⟨_, rrot19_fn, rfl, ?_⟩
              refine hT _ _ ?_
              iterate 2 (refine aops_step fun T S hT hS => ?_; (conv => whnf); refine hT _ _ ?_)
              refine aops_step fun T S hT hS => ?_
              conv => whnf
              rw [e2]
              refine hT _ _ ?_
              refine aops_step fun T S hT hS => ?_
              conv => whnf
              rw [dec_idx (n := 64) h2]
              conv => whnf
              refine hT _ _ ?_
              refine aops_step fun T S hT hS => ?_
              conv => whnf
              conv in (takeAt _ _ _) => change takeAt (wrow (pcL P j) t) (0 + (t - 2) * 1) 1; rw [wrow_take (pcL P j) l2 ht64]
              conv => whnf
              refine hT _ _ ?_
              iterate 3 (refine aops_step fun T S hT hS => ?_; (conv => whnf); refine hT _ _ ?_)
              refine aops_end ?_
              refine hK3 _ _ ?_
              clear hK3 hR3
              iterate 2 (refine aops_step fun T S hT hS => ?_; (conv => whnf); refine hT _ _ ?_)
              refine aops_step fun T S hT hS => ?_
              conv => whnf
              rw [e16]
              refine hT _ _ ?_
              refine aops_step fun T S hT hS => ?_
              conv => whnf
              rw [dec_idx (n := 64) h16]
              conv => whnf
              refine hT _ _ ?_
              refine aops_step fun T S hT hS => ?_
              conv => whnf
              conv in (takeAt _ _ _) => change takeAt (wrow (pcL P j) t) (0 + (t - 16) * 1) 1; rw [wrow_take (pcL P j) l16 ht64]
              conv => whnf
              refine hT _ _ ?_
              iterate 3 (refine aops_step fun T S hT hS => ?_; (conv => whnf); refine hT _ _ ?_)
              refine aops_step fun T S hT hS => ?_
              conv => whnf
              rw [e7]
              refine hT _ _ ?_
              refine aops_step fun T S hT hS => ?_
              conv => whnf
              rw [dec_idx (n := 64) h7]
              conv => whnf
              refine hT _ _ ?_
              refine aops_step fun T S hT hS => ?_
              conv => whnf
              conv in (takeAt _ _ _) => change takeAt (wrow (pcL P j) t) (0 + (t - 7) * 1) 1; rw [wrow_take (pcL P j) l7 ht64]
              conv => whnf
              refine hT _ _ ?_
              iterate 3 (refine aops_step fun T S hT hS => ?_; (conv => whnf); refine hT _ _ ?_)
              refine aops_step fun T S hT hS => ?_
              conv => whnf
              rw [dec_idx (n := 64) ht]
              conv => whnf
              refine hT _ _ ?_
              refine aops_step fun T S hT hS => ?_
              conv => whnf
              conv in (putAt _ _ _) => change putAt (wrow (pcL P j) t) (0 + t * 1) [w32 (wadd (wadd (wadd (Wd (pcL P j) (t - 16)) (sg0 (Wd (pcL P j) (t - 15)))) (Wd (pcL P j) (t - 7))) (sg1 (Wd (pcL P j) (t - 2))))]; rw [← Wd_hi (pcL P j) hge, wrow_put (pcL P j) ht]
              conv => whnf
              refine hT _ _ ?_
              refine aops_end ?_
              refine hK4 _ _ ?_
              clear hK4 hR4
              conv => whnf
              refine ⟨64 - (t + 1), F0, by omega, fun c N1 _ _ => ⟨_, _, wk_of (by (repeat' apply And.intro) <;> first | trivial | exact ⟨_, rfl, tv_inc (n := 64) ht (by omega), rfl⟩ | exact ⟨_, rfl, rfl, rfl⟩) (by (repeat' apply And.intro) <;> first | trivial | rfl | exact ⟨_, rfl, wrow_blk (pcL P j) (t + 1) _ _ _, wrow_cl (pcL P j) (t + 1) _⟩ | exact ⟨_, rfl, u8_blk _ _ _ _ _ _, ints_cl _ _ _⟩ | exact ⟨_, rfl, rfl, rfl⟩) (by exact Nat.le_of_ble_eq_true rfl) (by exact Nat.le_of_ble_eq_true rfl), ⟨t + 1, t0, t2, t3, g, cap, N1, by omega, ht, rfl, rfl, rfl⟩⟩⟩
            | false =>
              obtain rfl : t = 64 := by have := of_decide_eq_false hlt; omega
              conv => whnf
              refine hK7 _ _ ?_
              clear hK7 hR7
              refine swp_cut fun K hK hR _ => ?_
              conv => whnf
              refine hK _ _ ?_
              clear hK hR
              refine swp_cut fun K7 hK7 hR7 _ => ?_
              refine swp_cut fun K2 hK2 hR2 _ => ?_
              conv => whnf
              refine hK2 _ _ ?_
              clear hK2 hR2
              conv => whnf
              refine .inr (loop_invC (gH A _) (OfI3 P s j) ?_ ?_)
              · intro k' e' m' hI
                obtain ⟨t, t0, t2, t3, t4, g, cap, N, ht64, rfl, rfl, rfl⟩ := hI
                conv => whnf
                cases hlt : decide ((t : Int) < 64) with
                | true =>
                  have ht : t < 64 := by have := of_decide_eq_true hlt; omega
                  have hstep : rounds (pcL P j) s (t + 1) = step (tabK.getD t 0) (Wd (pcL P j) t) (rounds (pcL P j) s t) := rfl
                  generalize hr : rounds (pcL P j) s t = r at *
                  have hblk : ∀ F c, (⟨(rounds (pcL P j) s (t + 1)).cells, t4, 0, false⟩ : Blk) = ⟨fzL F c (step (tabK.getD t 0) (Wd (pcL P j) t) r).cells, t4, 0, false⟩ := fun F c => by rw [hstep]; rfl
                  show swpC _ (Code.seq _ _) _ _ _
                  refine swp_cut fun K4 hK4 hR4 _ => ?_
                  refine swp_block ?_
                  refine swp_cut fun K3 hK3 hR3 _ => ?_
                  iterate 3 (refine aops_step fun T S hT hS => ?_; (conv => whnf); refine hT _ _ ?_)
                  refine aops_end ?_
                  refine hK3 _ _ ?_
                  clear hK3 hR3
                  refine swp_cut fun K3 hK3 hR3 _ => ?_
                  iterate 3 (refine aops_step fun T S hT hS => ?_; (conv => whnf); refine hT _ _ ?_)
                  refine aops_step fun T S hT hS => ?_
                  conv => whnf
                  refine ⟨_, rrot6_fn, rfl, ?_⟩
                  refine hT _ _ ?_
                  refine aops_step fun T S hT hS => ?_
                  conv => whnf
                  refine hT _ _ ?_
                  refine aops_step fun T S hT hS => ?_
                  conv => whnf
                  refine ⟨_, rrot11_fn, rfl, ?_⟩
                  refine hT _ _ ?_
                  iterate 2 (refine aops_step fun T S hT hS => ?_; (conv => whnf); refine hT _ _ ?_)
                  refine aops_step fun T S hT hS => ?_
                  conv => whnf
                  refine ⟨_, rrot25_fn, rfl, ?_⟩
                  refine hT _ _ ?_
                  iterate 7 (refine aops_step fun T S hT hS => ?_; (conv => whnf); refine hT _ _ ?_)
                  refine aops_step fun T S hT hS => ?_
                  conv => whnf
                  show T (.one (.int .u32 (bxor r.e 4294967295))) _
                  rw [bxor_comm r.e 4294967295]
                  refine hT _ _ ?_
                  iterate 6 (refine aops_step fun T S hT hS => ?_; (conv => whnf); refine hT _ _ ?_)
                  refine aops_step fun T S hT hS => ?_
                  conv => whnf
                  rw [dec_idx (n := 64) ht]
                  conv => whnf
                  refine hT _ _ ?_
                  refine aops_step fun T S hT hS => ?_
                  conv => whnf
                  refine ⟨_, ERead_l (tab_one hTb ht), ?_⟩
                  refine hT _ _ ?_
                  iterate 2 (refine aops_step fun T S hT hS => ?_; (conv => whnf); refine hT _ _ ?_)
                  refine aops_step fun T S hT hS => ?_
                  conv => whnf
                  rw [dec_idx (n := 64) ht]
                  conv => whnf
                  refine hT _ _ ?_
                  refine aops_step fun T S hT hS => ?_
                  conv => whnf
                  conv in (takeAt _ _ _) => change takeAt (wrow (pcL P j) 64) (0 + t * 1) 1; rw [wrow_take (pcL P j) ht (Nat.le_refl _)]
                  conv => whnf
                  refine hT _ _ ?_
                  iterate 2 (refine aops_step fun T S hT hS => ?_; (conv => whnf); refine hT _ _ ?_)
                  refine aops_end ?_
                  refine hK3 _ _ ?_
                  clear hK3 hR3
                  refine swp_cut fun K3 hK3 hR3 _ => ?_
                  iterate 2 (refine aops_step fun T S hT hS => ?_; (conv => whnf); refine hT _ _ ?_)
                  refine aops_step fun T S hT hS => ?_
                  conv => whnf
                  refine ⟨_, rrot2_fn, rfl, ?_⟩
                  refine hT _ _ ?_
                  iterate 2 (refine aops_step fun T S hT hS => ?_; (conv => whnf); refine hT _ _ ?_)
                  refine aops_step fun T S hT hS => ?_
                  conv => whnf
                  refine ⟨_, rrot13_fn, rfl, ?_⟩
                  refine hT _ _ ?_
                  iterate 3 (refine aops_step fun T S hT hS => ?_; (conv => whnf); refine hT _ _ ?_)
                  refine aops_step fun T S hT hS => ?_
                  conv => whnf
                  refine ⟨_, rrot22_fn, rfl, ?_⟩
                  refine hT _ _ ?_
                  iterate 20 (refine aops_step fun T S hT hS => ?_; (conv => whnf); refine hT _ _ ?_)
                  refine aops_end ?_
                  refine hK3 _ _ ?_
                  clear hK3 hR3
                  refine swp_cut fun K3 hK3 hR3 _ => ?_
                  iterate 4 (refine aops_step fun T S hT hS => ?_; (conv => whnf); refine hT _ _ ?_)
                  refine aops_end ?_
                  refine hK3 _ _ ?_
                  clear hK3 hR3
                  refine swp_cut fun K3 hK3 hR3 _ => ?_
                  iterate 4 (refine aops_step fun T S hT hS => ?_; (conv => whnf); refine hT _ _ ?_)
                  refine aops_end ?_
                  refine hK3 _ _ ?_
                  clear hK3 hR3
                  refine swp_cut fun K3 hK3 hR3 _ => ?_
                  iterate 3 (refine aops_step fun T S hT hS => ?_; (conv => whnf); refine hT _ _ ?_)
                  refine aops_end ?_
                  refine hK3 _ _ ?_
                  clear hK3 hR3
                  refine swp_cut fun K3 hK3 hR3 _ => ?_
                  iterate 6 (refine aops_step fun T S hT hS => ?_; (conv => whnf); refine hT _ _ ?_)
                  refine aops_end ?_
                  refine hK3 _ _ ?_
                  clear hK3 hR3
                  refine swp_cut fun K3 hK3 hR3 _ => ?_
                  iterate 4 (refine aops_step fun T S hT hS => ?_; (conv => whnf); refine hT _ _ ?_)
                  refine aops_end ?_
                  refine hK3 _ _ ?_
                  clear hK3 hR3
                  refine swp_cut fun K3 hK3 hR3 _ => ?_
                  iterate 4 (refine aops_step fun T S hT hS => ?_; (conv => whnf); refine hT _ _ ?_)
                  refine aops_end ?_
                  refine hK3 _ _ ?_
                  clear hK3 hR3
                  refine swp_cut fun K3 hK3 hR3 _ => ?_
                  iterate 4 (refine aops_step fun T S hT hS => ?_; (conv => whnf); refine hT _ _ ?_)
                  refine aops_end ?_
                  refine hK3 _ _ ?_
                  clear hK3 hR3
                  iterate 5 (refine aops_step fun T S hT hS => ?_; (conv => whnf); refine hT _ _ ?_)
                  refine aops_end ?_
                  refine hK4 _ _ ?_
                  clear hK4 hR4
                  conv => whnf
                  refine ⟨64 - (t + 1), F0, by omega, fun c N1 _ _ => ⟨_, _, wk_of (by (repeat' apply And.intro) <;> first | trivial | exact ⟨_, rfl, tv_inc (n := 64) ht (by omega), rfl⟩ | exact ⟨_, rfl, rfl, rfl⟩) (by (repeat' apply And.intro) <;> first | trivial | rfl | exact ⟨_, rfl, hblk _ _, rfl⟩ | exact ⟨_, rfl, wrow_blk (pcL P j) 64 _ _ _, wrow_cl (pcL P j) 64 _⟩ | exact ⟨_, rfl, u8_blk _ _ _ _ _ _, ints_cl _ _ _⟩ | exact ⟨_, rfl, rfl, rfl⟩) (by exact Nat.le_of_ble_eq_true rfl) (by exact Nat.le_of_ble_eq_true rfl), ⟨t + 1, t0, t2, t3, t4, g, cap, N1, ht, rfl, rfl, rfl⟩⟩⟩
                | false =>
                  obtain rfl : t = 64 := by have := of_decide_eq_false hlt; omega
                  conv => whnf
                  refine hK7 _ _ ?_
                  clear hK7 hR7
                  have hm : mix (pcL P j) s = add8 s (rounds (pcL P j) s 64) := rfl
                  rw [hm] at hmix
                  generalize rounds (pcL P j) s 64 = r at *
                  have hblk : ∀ F c, (⟨(runP P begun8 (j + 1)).cells, t2, 0, false⟩ : Blk) = ⟨fzL F c (add8 s r).cells, t2, 0, false⟩ := fun F c => by rw [hmix]; rfl
                  have e64 : wr .i64 (((64 * j : Nat) : Int) + 64) = .int .i64 ((64 * (j + 1) : Nat) : Int) := by
                    simp only [wr]
                    rw [wrapN (n := 64 * (j + 1)) (by omega) (by omega)]
                  refine swp_cut fun K2 hK2 hR2 _ => ?_
                  conv => whnf
                  refine hK2 _ _ ?_
                  clear hK2 hR2
                  conv => whnf
                  refine .inl ⟨9, ?_⟩
                  conv => whnf
                  refine hK6 _ _ ?_
                  clear hK6 hR6
                  refine aops_step fun T S hT hS => ?_
                  conv => whnf
                  refine hT _ _ ?_
                  refine aops_step fun T S hT hS => ?_
                  conv => whnf
                  rw [e64]
                  refine hT _ _ ?_
                  refine aops_step fun T S hT hS => ?_
                  conv => whnf
                  refine hT _ _ ?_
                  refine aops_end ?_
                  conv => whnf
                  refine ⟨P.length - 64 * (j + 1), F0, by omega, fun c N1 _ _ => ⟨_, _, wk_of (by (repeat' apply And.intro) <;> first | trivial | exact ⟨_, rfl, rfl, rfl⟩) (by (repeat' apply And.intro) <;> first | trivial | rfl | exact ⟨_, rfl, hblk _ _, rfl⟩ | exact ⟨_, rfl, u8_blk _ _ _ _ _ _, ints_cl _ _ _⟩ | exact ⟨_, rfl, rfl, rfl⟩) (by exact Nat.le_of_ble_eq_true rfl) (by exact Nat.le_of_ble_eq_true rfl), ⟨j + 1, t0, t2, g, cap, N1, hjl, rfl, rfl, rfl⟩⟩⟩
              · refine ⟨64, F0, fun c N1 _ _ => ⟨_, _, wk_of (by (repeat' apply And.intro) <;> first | trivial | exact ⟨_, rfl, rfl, rfl⟩) (by (repeat' apply And.intro) <;> first | trivial | rfl | exact ⟨_, rfl, wrow_blk (pcL P j) 64 _ _ _, wrow_cl (pcL P j) 64 _⟩ | exact ⟨_, rfl, u8_blk _ _ _ _ _ _, ints_cl _ _ _⟩ | exact ⟨_, rfl, rfl, rfl⟩) (by exact Nat.le_of_ble_eq_true rfl) (by exact Nat.le_of_ble_eq_true rfl), ⟨0, t0, t2, t3, _, g, cap, N1, by omega, rfl, rfl, rfl⟩⟩⟩
          · refine ⟨48, F0, fun c N1 _ _ => ⟨_, _, wk_of (by (repeat' apply And.intro) <;> first | trivial | exact ⟨_, rfl, rfl, rfl⟩) (by (repeat' apply And.intro) <;> first | trivial | rfl | exact ⟨_, rfl, wrow_blk (pcL P j) 16 _ _ _, wrow_cl (pcL P j) 16 _⟩ | exact ⟨_, rfl, u8_blk _ _ _ _ _ _, ints_cl _ _ _⟩ | exact ⟨_, rfl, rfl, rfl⟩) (by exact Nat.le_of_ble_eq_true rfl) (by exact Nat.le_of_ble_eq_true rfl), ⟨16, t0, t2, t3, g, cap, N1, by omega, by omega, rfl, rfl, rfl⟩⟩⟩
      · refine ⟨16, F0, fun c N1 _ _ => ⟨_, _, wk_of (by (repeat' apply And.intro) <;> first | trivial | exact ⟨_, rfl, rfl, rfl⟩) (by (repeat' apply And.intro) <;> first | trivial | rfl | exact ⟨_, rfl, wrow_blk0 (pcL P j) _ _ _, wrow_cl (pcL P j) 0 _⟩ | exact ⟨_, rfl, u8_blk _ _ _ _ _ _, ints_cl _ _ _⟩ | exact ⟨_, rfl, rfl, rfl⟩) (by exact Nat.le_of_ble_eq_true rfl) (by exact Nat.le_of_ble_eq_true rfl), ⟨0, t0, t2, _, g, cap, N1, by omega, rfl, rfl, rfl⟩⟩⟩
    | false =>
      have hjq : j = P.length / 64 := by have := of_decide_eq_false hlt; omega
      conv => whnf
      refine hK _ _ ?_
      clear hK hR
      rw [hjq]
      generalize runP P begun8 (P.length / 64) = sf at *
      refine swp_cut fun K hK hR _ => ?_
      conv => whnf
      refine hK _ _ ?_
      clear hK hR
      refine swp_cut fun K hK hR _ => ?_
      refine swp_cut fun K2 hK2 hR2 _ => ?_
      conv => whnf
      refine hK2 _ _ ?_
      clear hK2 hR2
      conv => whnf
      refine .inr (loop_invC (gH A _) (OfI5 sf) ?_ ?_)
      · intro k' e' m' hI
        obtain ⟨i, t0, t2, t3, N, hi32, rfl, rfl, rfl⟩ := hI
        conv => whnf
        cases hlt : decide ((i : Int) < 32) with
        | true =>
          have hi : i < 32 := by have := of_decide_eq_true hlt; omega
          have h8 : i / 4 < 8 := by omega
          have eq4 : IntKind.wrap .i64 ((i : Int).tdiv 4) = ((i / 4 : Nat) : Int) := wrapN (n := i / 4) rfl (by omega)
          have er4 : (i : Int).tmod 4 = ((i % 4 : Nat) : Int) := rfl
          have e8 : wr .i64 (8 * ((i % 4 : Nat) : Int)) = .int .i64 ((8 * (i % 4) : Nat) : Int) := by
            simp only [wr]
            rw [wrapN (n := 8 * (i % 4)) (by omega) (by omega)]
          have e24 : wr .i64 (24 - ((8 * (i % 4) : Nat) : Int)) = .int .i64 ((24 - 8 * (i % 4) : Nat) : Int) := by
            simp only [wr]
            rw [wrapN (n := 24 - 8 * (i % 4)) (by omega) (by omega)]
          show swpC _ (Code.seq _ _) _ _ _
          refine swp_cut fun K4 hK4 hR4 _ => ?_
          refine swp_block ?_
          iterate 2 (refine aops_step fun T S hT hS => ?_; (conv => whnf); refine hT _ _ ?_)
          refine aops_step fun T S hT hS => ?_
          conv => whnf
          rw [eq4]
          refine hT _ _ ?_
          refine aops_step fun T S hT hS => ?_
          conv => whnf
          rw [dec_idx (n := 8) h8]
          conv => whnf
          refine hT _ _ ?_
          refine aops_step fun T S hT hS => ?_
          conv => whnf
          conv in (takeAt _ _ _) => change takeAt sf.cells (0 + (i / 4) * 1) 1; rw [get_take0 sf h8]
          conv => whnf
          refine hT _ _ ?_
          refine aops_step fun T S hT hS => ?_
          conv => whnf
          refine hT _ _ ?_
          refine aops_step fun T S hT hS => ?_
          conv => whnf
          rw [er4]
          refine hT _ _ ?_
          refine aops_step fun T S hT hS => ?_
          conv => whnf
          rw [e8]
          refine hT _ _ ?_
          refine aops_step fun T S hT hS => ?_
          conv => whnf
          rw [e24]
          refine hT _ _ ?_
          iterate 2 (refine aops_step fun T S hT hS => ?_; (conv => whnf); refine hT _ _ ?_)
          refine aops_step fun T S hT hS => ?_
          conv => whnf
          rw [dec_idx (n := 32) hi]
          conv => whnf
          refine hT _ _ ?_
          refine aops_step fun T S hT hS => ?_
          conv => whnf
          conv in (putAt _ _ _) => change putAt (drow sf i) (0 + i * 1) [(.int .u8 ((sf.get (i / 4)).fdiv (2 ^ (min (24 - 8 * (i % 4)) 32)) % 256))]; rw [drow_put1 sf hi]
          conv => whnf
          refine hT _ _ ?_
          refine aops_end ?_
          refine hK4 _ _ ?_
          clear hK4 hR4
          conv => whnf
          refine ⟨32 - (i + 1), F0, by omega, fun c N1 _ _ => ⟨_, _, wk_of (by (repeat' apply And.intro) <;> first | trivial | exact ⟨_, rfl, tv_inc (n := 32) hi (by omega), rfl⟩ | exact ⟨_, rfl, rfl, rfl⟩) (by (repeat' apply And.intro) <;> first | trivial | rfl | exact ⟨_, rfl, drow_blk sf (i + 1) _ _ _, drow_cl sf (i + 1) _⟩ | exact ⟨_, rfl, u8_blk _ _ _ _ _ _, ints_cl _ _ _⟩ | exact ⟨_, rfl, rfl, rfl⟩) (by exact Nat.le_of_ble_eq_true rfl) (by exact Nat.le_of_ble_eq_true rfl), ⟨i + 1, t0, t2, t3, N1, hi, rfl, rfl, rfl⟩⟩⟩
        | false =>
          obtain rfl : i = 32 := by have := of_decide_eq_false hlt; omega
          conv => whnf
          refine hK _ _ ?_
          clear hK hR
          rw [drow_32]
          conv => whnf
          intro c N2 _ _
          rfl
      · refine ⟨32, F0, fun c N1 _ _ => ⟨_, _, wk_of (by (repeat' apply And.intro) <;> first | trivial | exact ⟨_, rfl, rfl, rfl⟩) (by (repeat' apply And.intro) <;> first | trivial | rfl | exact ⟨_, rfl, drow_blk0 sf _ _ _, drow_cl sf 0 _⟩ | exact ⟨_, rfl, u8_blk _ _ _ _ _ _, ints_cl _ _ _⟩ | exact ⟨_, rfl, rfl, rfl⟩) (by exact Nat.le_of_ble_eq_true rfl) (by exact Nat.le_of_ble_eq_true rfl), ⟨0, t0, t2, _, N1, by omega, rfl, rfl, rfl⟩⟩⟩
  · refine ⟨P.length, F0, fun c N1 _ _ => ⟨_, _, wk_of (by (repeat' apply And.intro) <;> first | trivial | exact ⟨_, rfl, rfl, rfl⟩) (by (repeat' apply And.intro) <;> first | trivial | rfl | exact ⟨_, rfl, u8_blk _ _ _ _ _ _, ints_cl _ _ _⟩ | exact ⟨_, rfl, rfl, rfl⟩) (by exact Nat.le_of_ble_eq_true rfl) (by exact Nat.le_of_ble_eq_true rfl), ⟨0, _, _, _, cap, N1, by omega, rfl, rfl, rfl⟩⟩⟩

end Go.Hv
