import Derived.Test.YthmdbgdagnhheaaDoorRf1
import Derived.Test.YthmdbgdagnhheaaDoorCuL
import Derived.Test.YthmdbgdagnhheaaDoorByM
import Derived.Test.YthmdbgdagnhheaaDoorSq
namespace Go.Hv
open Go.Ev

def TgR (T0 : List Int) (Xs : List (List Int)) (q : TV) (k : Nat) (e : Env) (m : HM) : Prop :=
 ∃ (i t0 cap : Nat) (N : Base), i ≤ Xs.length ∧ k = Xs.length - i ∧ (tagY T0 Xs i).length ≤ cap ∧
  ((i = 0 ∧ e = [(7, .one (.int .i64 (i : Int))), (6, .one (.slice (some (.loc 4 0)) (tagY T0 Xs i).length cap)), (4, .one (.ptr (some (.loc 0 0)))), (1, q)] ∧ m = ⟨[d0 t0, none, none, none, some ⟨u8s (tagY T0 Xs i), t_uint8, cap * 1, true⟩], N⟩) ∨ (0 < i ∧ e = [(7, .one (.int .i64 (i : Int))), (6, .one (.slice (some (.loc 5 0)) (tagY T0 Xs i).length cap)), (4, .one (.ptr (some (.loc 0 0)))), (1, q)] ∧ m = ⟨[d0 t0, none, none, none, none, some ⟨u8s (tagY T0 Xs i), t_uint8, cap * 1, true⟩], N⟩))

theorem dgl_u8 (s : S8) : ∀ z ∈ dgl s, 0 ≤ z ∧ z < 256 := fun z hz => by
 obtain ⟨i, _, rfl⟩ := List.mem_map.1 hz
 omega
theorem nmB_u8 (nm : ByteArray) : ∀ z ∈ nmB nm, 0 ≤ z ∧ z < 256 := fun z hz => by
 obtain ⟨b, _, rfl⟩ := List.mem_map.1 hz
 have := b.toNat_lt
 omega

theorem tagY_u8 {T0 : List Int} {Xs : List (List Int)} (h0 : ∀ z ∈ T0, 0 ≤ z ∧ z < 256) (h : ∀ X ∈ Xs, ∀ z ∈ X, 0 ≤ z ∧ z < 256) : ∀ z ∈ tagY T0 Xs Xs.length, 0 ≤ z ∧ z < 256 := fun z hz => by
 unfold tagY at hz
 rw [List.take_length] at hz
 simp only [List.mem_append, List.mem_flatten] at hz
 rcases hz with (hz | hz) | ⟨X, hX, hz⟩
 ·exact h0 z hz
 ·exact h0 z hz
 ·exact h X hX z hz

end Go.Hv

namespace Go.Hv
open Go.Ev Go.Ec

theorem lift_right' {x : Int} (h : (liftR x).2 = true) : rightP x (liftR x).1 false = true ∧ (liftR x).1 % 2 = 0 ∧ InW (liftR x).1 := by
 unfold liftR at *
 cases hd : decide (x % pp = x) with
 | false => rw [hd] at h; cases h
 | true =>
  rw [hd] at h
  simp only at h ⊢
  have h1 := sqrtP_sq h
  have h2 := sqrtP_lt (vK (toK x * toK x * toK x + 7))
  have h3 := sqrtP_even (vK (toK x * toK x * toK x + 7))
  rw [h2] at h3
  refine ⟨?_, h3, sqrtP_in _⟩
  generalize (sqrtP (vK (toK x * toK x * toK x + 7))).1 = r at *
  simp only [rightP, hd, h2, decide_true, Bool.true_and, decide_eq_true_eq]
  rw [vK_mod, ← vK_toK, vK_inj, toK_mul] at h1
  exact h1

def gnm : ByteArray := ⟨#[116, 111, 108, 108, 104, 111, 117, 115, 101, 47, 103, 101, 110, 101, 114, 97, 116, 111, 114]⟩
def gnD (D : List Int) (i : Nat) : List Int := tagD gnm [D, [(i : Int) % 256]]

theorem gn_ex (D : List Int) (i : Nat) : ∃ x, ∃ l0 l1 l2 l3, InU l0 ∧ InU l1 ∧ InU l2 ∧ InU l3 ∧ u8s (gnD D i) = bcsL l0 l1 l2 l3 ∧ x = val l0 l1 l2 l3 := by
 obtain ⟨l0, l1, l2, l3, h0, h1, h2, h3, e⟩ := bytes_of (l := gnD D i) (shaD_len _) (dgl_u8 _)
 exact ⟨_, l0, l1, l2, l3, h0, h1, h2, h3, e, rfl⟩

noncomputable def gnum (D : List Int) (i : Nat) : Int := (gn_ex D i).choose

noncomputable def genT (D : List Int) : Nat → Nat → TV
 | 0, _ => ptOf gP
 | k + 1, i => match (liftR (gnum D i)).2 with
  | true => .agg (ptC (gnum D i) (liftR (gnum D i)).1 false)
  | false => genT D k (i + 1)
noncomputable def genV (D : List Int) : TV := genT D 256 0

theorem genT_pt (D : List Int) : ∀ k i, ∃ x y, InW x ∧ InW y ∧ rightP x y false = true ∧ genT D k i = ptV x y false
 | 0, i => by
  obtain ⟨x, y, b, ix, iy, eg, tg, rg⟩ := pt_nm gP gP_on
  cases b with
  | false => exact ⟨x, y, ix, iy, rg, eg⟩
  | true =>
   exfalso
   have h1 : tkn x y true = none := by unfold tkn; split <;> simp_all
   rw [tg] at h1
   cases h1
 | k + 1, i => by
  obtain ⟨l0, l1, l2, l3, h0, h1, h2, h3, _, ex⟩ := (gn_ex D i).choose_spec
  have hx : InW (gnum D i) := by
   unfold gnum
   rw [ex]
   unfold val
   exact ⟨by omega, by omega⟩
  unfold genT
  cases h : (liftR (gnum D i)).2 with
  | false => exact genT_pt D k (i + 1)
  | true =>
   obtain ⟨g1, g2, g3⟩ := lift_right' h
   exact ⟨_, _, hx, g3, g1, rfl⟩

theorem sl_ext_of {c : Con} {B : Base} {bs : Mem} {b n cap : Nat} {x : Blk} {L : List Sc} (hL : Lent c B bs) (hx : nth bs b = some x) (he : extL c x.cells = L) (hc : closedL 0 L = true) (hn : n = L.length) (hcap : L.length ≤ cap) (hb : L.length ≤ 140737488355128) :
  Sl B 1 (.one (.slice (some (.ext ⟨c.ι b, 0, none⟩)) n cap)) (ones L) := by
 obtain ⟨junk, h⟩ := hL b x hx
 rw [he] at h
 refine ⟨some (.ext ⟨c.ι b, 0, none⟩), cap, by rw [hn, ones_len], ⟨by rw [ones_len]; exact hcap, by rw [ones_len]; exact hb⟩, fun y hy => ?_, rfl, fun i y j s hi hj => ?_⟩
 ·obtain ⟨s, hs, rfl⟩ := List.mem_map.1 hy
  exact ⟨rfl, closedL_iff.2 fun s' hs' => by
   simp only [List.mem_singleton] at hs'
   subst hs'
   exact closedL_iff.1 hc _ hs⟩
 ·simp only [ones, List.getElem?_map, Option.map_eq_some_iff] at hi
  obtain ⟨s', hs', rfl⟩ := hi
  have hj0 : j = 0 := by
   have := (List.getElem?_eq_some_iff.1 hj).1
   simpa using this
  subst hj0
  obtain rfl := Option.some.inj hj
  have hlt := (List.getElem?_eq_some_iff.1 hs').1
  rw [addr_off]
  refine ⟨_, _, _, h, rfl, ?_⟩
  simp only [List.getElem?_toArray]
  rw [List.getElem?_append_left (by simpa using (by omega : 0 + (i * 1 + 0) < L.length)), List.getElem?_map, show 0 + (i * 1 + 0) = i by omega, hs']
  rfl

theorem two_lent {c : Con} {B : Base} {bs : Mem} {b0 b1 b2 t0 t1 t2 c0 g0 : Nat} {gr : Bool} {D E : List Int} (hL : Lent c B bs) (h0 : nth bs b0 = some ⟨u8s D, t0, g0, gr⟩) (h1 : nth bs b1 = some ⟨u8s E, t1, 0, false⟩)
  (h2 : nth bs b2 = some ⟨[.slice (some (.loc b0 0)) D.length c0, .slice (some (.loc b1 0)) E.length E.length], t2, 0, false⟩) (hD : D.length ≤ 1000000) (hE : E.length ≤ 1000000) (hc0 : D.length ≤ c0) :
  Texts B (.one (.slice (some (.ext ⟨c.ι b2, 0, none⟩)) 2 2)) [D, E] := by
 have s0 : Sl B 1 (.one (.slice (some (.ext ⟨c.ι b0, 0, none⟩)) D.length c0)) (ones (u8s D)) := sl_lent (b := b0) (o := 0) (L := ones (u8s D)) (post := []) hL h0 (ints_cl _ _ 0) (by rw [ones_flat]; exact (List.append_nil _).symm) (by rw [u8s_len]) (by rw [u8s_len]; exact hc0) (by rw [u8s_len]; omega) (ones_es _)
 have s1 : Sl B 1 (.one (.slice (some (.ext ⟨c.ι b1, 0, none⟩)) E.length E.length)) (ones (u8s E)) := sl_lent (b := b1) (o := 0) (L := ones (u8s E)) (post := []) hL h1 (ints_cl _ _ 0) (by rw [ones_flat]; exact (List.append_nil _).symm) (by rw [u8s_len]) (by rw [u8s_len]; exact Nat.le_refl _) (by rw [u8s_len]; omega) (ones_es _)
 refine ⟨[.slice (some (.ext ⟨c.ι b0, 0, none⟩)) D.length c0, .slice (some (.ext ⟨c.ι b1, 0, none⟩)) E.length E.length], sl_ext_of (b := b2) hL h2 rfl rfl rfl (Nat.le_refl 2) (by show 2 ≤ 140737488355128; omega), rfl, fun i S X hi hX => ?_⟩
 match i, hi, hX with
 | 0, hi, hX =>
  obtain rfl := Option.some.inj hi
  obtain rfl := Option.some.inj hX
  exact s0
 | 1, hi, hX =>
  obtain rfl := Option.some.inj hi
  obtain rfl := Option.some.inj hX
  exact s1
 | i + 2, hi, hX => simp at hi

theorem gnD_Y (D : List Int) (hD : D.length = 32) (i : Nat) : (tagY (shaD (nmB gnm)) [D, [(i : Int) % 256]] 2).length ≤ 140737488352000 := by
 unfold tagY
 simp only [List.length_append, shaD_len, List.take_succ_cons, List.take_zero, List.flatten_cons, List.flatten_nil, hD, List.length_cons, List.length_nil]
 omega

def GnC (D : List Int) (k : Nat) (e : Env) (m : HM) : Prop :=
 ∃ (i t0 t1 : Nat) (N : Base), i ≤ 256 ∧ k = 256 - i ∧ genV D = genT D (256 - i) i ∧ e = [(7, .one (.int .i64 (i : Int))), (2, .one (.ptr (some (.loc 1 0)))), (1, .one (.ptr (some (.loc 0 0))))] ∧ m = ⟨[some ⟨u8s D, t0, 0, false⟩, some ⟨ptC 0 0 false, t1, 0, false⟩], N⟩

def GnR (D : List Int) (k : Nat) (e : Env) (m : HM) : Prop :=
 ∃ (i t0 t1 : Nat) (N : Base), i ≤ 256 ∧ k = 256 - i ∧ genV D = genT D (256 - i) i ∧ e = [(3, .one (.int .i64 (i : Int))), (2, .one (.ptr (some (.loc 1 0)))), (1, .one (.ptr (some (.loc 0 0))))] ∧ m = ⟨[some ⟨u8s D, t0, 0, false⟩, some ⟨ptC 0 0 false, t1, 0, false⟩], N⟩

end Go.Hv
