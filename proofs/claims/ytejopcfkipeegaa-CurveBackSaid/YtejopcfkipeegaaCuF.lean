import Derived.Test.YtejopcfkipeegaaCuD
import Derived.Test.YtejopcfkipeegaaBy5
namespace Go.Hv
open Go.Ev Go.Ec

theorem encY {y : Int} (he : y % pp = y) : IntKind.u8.wrap ((2 + Int.tmod (y % 18446744073709551616) 2) % 18446744073709551616) = if y % pp % 2 = 1 then 3 else 2 := by
  have h1 : Int.tmod (y % 18446744073709551616) 2 = y % 2 := by
    rw [Int.tmod_eq_emod_of_nonneg (by omega)]
    omega
  rw [h1, he, wr8]
  split <;> omega

set_option maxHeartbeats 1000000 in
set_option maxRecDepth 100000 in
theorem r5Encode_z {A : Base} {x y : Int} {b : Bool} (ct : Ev.Fn PG f_ref05_Taken [ptV x y b] (ptV 0 0 true)) : HCO PG A f_ref05_Encode [ptV x y b] fun n cap k _ => n = 33 ∧ 33 ≤ cap ∧ ∃ es g, k = ⟨List.replicate 33 (.int .u8 0), 5, es, g⟩ := by
  refine hco_start (fun _ => none) h_ref05_Encode rfl (by kernel_rfl) (by kernel_rfl) rfl ?_
  refine swp_cut fun K hK hR _ => ?_
  conv => whnf
  refine hK _ _ ?_
  clear hK hR
  refine swp_cut fun K hK hR _ => ?_
  conv => whnf
  refine ⟨_, ct, rfl, ?_⟩
  conv => whnf
  refine hK _ _ ?_
  clear hK hR
  refine swp_cut fun K hK hR _ => ?_
  conv => whnf
  refine ⟨⟨by decide, rfl, by decide, by decide, rfl⟩, ?_⟩
  conv => whnf
  refine hK _ _ ?_
  clear hK hR
  refine swp_cut fun K1 hK1 hR1 _ => swp_cut fun K hK hR _ => ?_
  conv => whnf
  refine hK _ _ ?_
  conv => whnf
  conv => whnf
  refine hR1 _ _ ?_
  conv => whnf
  exact ⟨_, _, _, _, rfl, rfl, rfl, rfl, by decide, 0, false, rfl⟩

set_option maxHeartbeats 1000000 in
set_option maxRecDepth 100000 in
theorem r5Encode_p {A : Base} {x y : Int} (hx : InW x) (hy' : y % pp = y) (ct : Ev.Fn PG f_ref05_Taken [ptV x y false] (ptV x y false)) : HCO PG A f_ref05_Encode [ptV x y false] fun n cap k _ => n = 33 ∧ 33 ≤ cap ∧ ∃ es g, k = ⟨.int .u8 (if y % pp % 2 = 1 then 3 else 2) :: bcs4 x, 5, es, g⟩ := by
  refine hco_start (fun _ => none) h_ref05_Encode rfl (by kernel_rfl) (by kernel_rfl) rfl ?_
  have co := refOf_fn x
  obtain ⟨m0, m1, m2, m3, i0, i1, i2, i3, em⟩ := split4 hx
  have c5 : ∀ B, HCO PG B f_ref03_Bytes [W x] fun n cap k _ => n = 32 ∧ 32 ≤ cap ∧ k = ⟨bcs4 x, 5, cap * 1, true⟩ := fun B => by
    have := @r3Bytes_hco B m0 m1 m2 m3 i0 i1 i2 i3
    rwa [bcsL_val i0 i1 i2 i3, ← em] at this
  refine swp_cut fun K hK hR _ => ?_
  conv => whnf
  refine hK _ _ ?_
  clear hK hR
  refine swp_cut fun K hK hR _ => ?_
  conv => whnf
  refine ⟨_, ct, rfl, ?_⟩
  conv => whnf
  refine hK _ _ ?_
  clear hK hR
  refine swp_cut fun K hK hR _ => ?_
  conv => whnf
  refine ⟨⟨by decide, rfl, by decide, by decide, rfl⟩, ?_⟩
  conv => whnf
  refine hK _ _ ?_
  clear hK hR
  refine swp_cut fun K1 hK1 hR1 _ => swp_cut fun K hK hR _ => ?_
  conv => whnf
  refine hK _ _ ?_
  clear hK hR
  conv => whnf
  conv => whnf
  refine hK1 _ _ ?_
  clear hK1 hR1
  refine swp_cut fun K hK hR _ => ?_
  conv => whnf
  refine hK _ _ ?_
  clear hK hR
  refine swp_cut fun K hK hR _ => ?_
  conv => whnf
  refine ⟨_, co, rfl, ?_⟩
  conv => whnf
  refine ⟨fun n cap k _ => n = 32 ∧ 32 ≤ cap ∧ k = ⟨bcs4 x, 5, cap * 1, true⟩, fun c B hB hL => c5 B, ⟨32, 32, ⟨bcs4 x, 5, 32 * 1, true⟩, B0, rfl, rfl, Nat.le_refl _, rfl⟩, ?_⟩
  rintro n cap k N' _ ⟨rfl, hcap, rfl⟩ N1 _
  conv => whnf
  refine ⟨bcs4 x, rfl, rfl, rfl, ?_⟩
  conv => whnf
  refine ⟨rfl, Nat.le_refl _, rfl, rfl, cap_bytes (by omega), fun cap' hcap' => ?_⟩
  conv => whnf
  refine hK _ _ ?_
  clear hK hR
  conv => whnf
  refine ⟨4, 33, cap', ⟨.int .u8 (IntKind.u8.wrap ((2 + (y % 18446744073709551616).tmod 2) % 18446744073709551616)) :: bcs4 x, 5, cap' * 1, true⟩, rfl, rfl, rfl, rfl, hcap', cap' * 1, true, ?_⟩
  rw [encY hy']

theorem r5Encode_hco {A : Base} {x y : Int} {b : Bool} (hx : InW x) (hy : InW y) : HCO PG A f_ref05_Encode [ptV x y b] fun n cap k _ => n = 33 ∧ 33 ≤ cap ∧ ∃ es g, k = ⟨encC x y b, 5, es, g⟩ := by
  have ct := taken_fn (b := b) hx hy
  cases b with
  | true => exact r5Encode_z ct
  | false =>
    cases hr : rightP x y false with
    | false =>
      have e : tkn x y false = none := by unfold tkn; rw [hr]
      rw [e] at ct
      have ee : encC x y false = List.replicate 33 (.int .u8 0) := by unfold encC; rw [hr]
      rw [ee]
      exact r5Encode_z ct
    | true =>
      have e : tkn x y false = some (toK x, toK y) := by unfold tkn; rw [hr]
      rw [e] at ct
      have h := rightP_K hr
      unfold ptOf at ct
      simp only [← h.1, ← h.2] at ct
      have ee : encC x y false = .int .u8 (if y % pp % 2 = 1 then 3 else 2) :: bcs4 x := by unfold encC; rw [hr]
      rw [ee]
      simp only [rightP, Bool.and_eq_true, decide_eq_true_eq] at hr
      exact r5Encode_p hx hr.2.1 ct

end Go.Hv
