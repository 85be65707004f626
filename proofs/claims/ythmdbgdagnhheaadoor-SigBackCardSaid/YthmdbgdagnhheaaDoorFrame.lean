import Derived.Test.YthmdbgdagnhheaaDoorEvA
namespace Go.Ev

theorem CALL.frame {P : Program} {W0 : World} {f : FuncId} {args1 args2 : List TV} {m : Mem} {b : Nat} {blk : Blk} {R : Blk → Prop} (hn : nth m b = some blk) (hc : closedL 0 blk.cells = true)
  (ha : ∀ c : Con, args1.map (TV.conc ⟨fun _ => c.ι b, fun _ => c.κ b⟩) = args2.map (TV.conc c)) (hcl : closedTs 1 args1 = true)
  (h : CALL P W0 f args1 [some blk] fun v m' => v = .tup [] ∧ ∃ k, m' = [some k] ∧ closedL 0 k.cells = true ∧ R k) :
  CALL P W0 f args2 m fun v m' => v = .tup [] ∧ ∃ k, m' = setB m b (some k) ∧ R k := by
 refine ⟨h.1, fun c w hr _ => ?_⟩
 have any : ∀ c' c'' : Con, ∀ l : List Sc, closedL 0 l = true → l.map (Sc.conc c') = l.map (Sc.conc c'') := fun c' c'' l hl => by
  apply List.map_congr_left
  intro s hs
  exact Sc.conc_agree (n := 0) (fun b hb => absurd hb (Nat.not_lt_zero b)) (closedL_iff.1 hl s hs)
 have one : ∀ (k : Blk) (b' : Nat) (x : Blk), nth [some k] b' = some x → b' = 0 ∧ x = k := fun k b' x hx => by
  have hlt := nth_lt hx
  have : b' = 0 := by simpa using hlt
  subst this
  simp only [nth, Option.some.injEq] at hx
  exact ⟨rfl, hx.symm⟩
 have hr1 : RelM W0 ⟨fun _ => c.ι b, fun _ => c.κ b⟩ [some blk] w := by
  refine ⟨fun b' x hx => ?_, fun b' x hx => ?_, fun a d x y hx hy _ => ?_, fun _ _ => hr.ge b (nth_lt hn), fun _ _ => hr.lt b (nth_lt hn), hr.ext, hr.size, hr.os, hr.tape, hr.output⟩
  ·obtain ⟨rfl, rfl⟩ := one _ _ _ hx
   obtain ⟨junk, k1, k2, k3⟩ := hr.blk b x hn
   exact ⟨junk, by rw [any _ c x.cells hc]; exact k1, k2, k3⟩
  ·obtain ⟨rfl, rfl⟩ := one _ _ _ hx
   exact closedL_mono (Nat.zero_le _) hc
  ·rw [(one _ _ _ hx).1, (one _ _ _ hy).1]
 have hcall := h.2 _ w hr1 (closedTs_iff.1 hcl)
 rw [ha c] at hcall
 refine hcall.mono fun e w' hh => ?_
 obtain ⟨v, m', c', h1, h2, h3, _, rfl, k, rfl, hk, hR⟩ := hh
 have hi : c'.ι 0 = c.ι b := (h3.agree 0 (by simp)).1
 have hκ : c'.κ 0 = c.κ b := (h3.agree 0 (by simp)).2
 have dom : ∀ b' x, nth (setB m b (some k)) b' = some x → ∃ y, nth m b' = some y := fun b' x hx => by
  by_cases hb : b = b'
  ·subst hb; exact ⟨blk, hn⟩
  ·rw [nth_setB_ne hb] at hx; exact ⟨x, hx⟩
 refine ⟨.tup [], setB m b (some k), c, h1, ?_, ?_, rfl, rfl, k, rfl, hR⟩
 ·refine ⟨fun b' x hx => ?_, fun b' x hx => ?_, fun a d x y hx hy he => ?_, fun b' hb => hr.ge b' (by simpa using hb), fun b' hb => Nat.lt_of_lt_of_le (hr.lt b' (by simpa using hb)) h3.size,
   h2.ext, h2.size, h2.os, h2.tape, h2.output⟩
  ·by_cases hb : b = b'
   ·subst hb
    rw [nth_setB_same hn, Option.some.injEq] at hx
    subst hx
    obtain ⟨junk, k1, k2, k3⟩ := h2.blk 0 k rfl
    rw [hi, any c' c _ hk] at k1
    rw [hκ] at k3
    exact ⟨junk, k1, k2, k3⟩
   ·rw [nth_setB_ne hb] at hx
    obtain ⟨junk, k1, k2⟩ := hr.blk b' x hx
    refine ⟨junk, ?_, k2⟩
    rw [h3.keep _ (hr.lt b' (nth_lt hx)) (fun b'' y hy => ?_)]
    ·exact k1
    ·intro he
     exact hb (hr.inj b b' blk x hn hx he)
  ·rw [length_setB]
   by_cases hb : b = b'
   ·subst hb
    rw [nth_setB_same hn, Option.some.injEq] at hx
    subst hx
    exact closedL_mono (Nat.zero_le _) hk
   ·rw [nth_setB_ne hb] at hx
    exact hr.cl b' x hx
  ·obtain ⟨x', hx'⟩ := dom a x hx
   obtain ⟨y', hy'⟩ := dom d y hy
   exact hr.inj a d x' y' hx' hy' he
 ·refine ⟨by simp, fun _ _ => ⟨rfl, rfl⟩, h3.size, fun r hr' hno => h3.keep r hr' (fun b' x hx => ?_), fun b' x hx hge => ?_, fun b' x hx _ => dom b' x hx⟩
  ·exact hno b blk hn
  ·have := nth_lt hx
   rw [length_setB] at this
   omega

end Go.Ev
