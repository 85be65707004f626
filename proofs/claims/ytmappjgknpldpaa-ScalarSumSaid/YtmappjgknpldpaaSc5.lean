import Derived.Test.YtmappjgknpldpaaSc4
import Derived.Test.YtmappjgknpldpaaHs
namespace Go.Hv
open Go.Ev

def sumN (l : List Int) : Int := l.foldl (fun s a => (s + a) % nn) 0

theorem sumN_in (l : List Int) : InW (sumN l) := by
  rcases List.eq_nil_or_concat l with rfl | ⟨l', x, rfl⟩
  · exact ⟨by decide, by decide⟩
  · simp only [sumN, List.concat_eq_append, List.foldl_append, List.foldl_cons, List.foldl_nil]; exact inN _

def SumI (l : List Int) (p : Option SP) (cap : Nat) (k : Nat) (e : Env) (m : HM) : Prop :=
  ∃ (i t0 t1 : Nat) (N : Base), i ≤ (l.map words).length ∧ k = (l.map words).length - i ∧
    e = [(8, .one (.int .i64 i)), (7, .one (.int .i64 (l.map words).length)), (6, .one (.slice p (l.map words).length cap)), (3, .one (.ptr (some (.loc 1 0)))), (2, .one (.ptr (some (.loc 0 0))))] ∧
    m = ⟨[some ⟨[u 0, u 0, u 0, u 0], t0, 0, false⟩, some ⟨words (sumN (l.take i)), t1, 0, false⟩], N⟩

theorem scSum_hc {A : Base} {s : TV} {l : List Int} (hl : ∀ x ∈ l, InW x) (hs : Sl A 4 s (l.map words)) : HC PG A f_scalar_Sum [s] fun v _ => v = W (sumN l) := by
  obtain ⟨p, cap, rfl, h1, h2, h3⟩ := id hs
  obtain ⟨g1, g2, g3⟩ := hs.stable
  have hp : closedTs 0 [TV.one (.slice p (l.map words).length cap)] = true := closedTs_iff.2 fun v hv => by simp only [List.mem_singleton] at hv; subst hv; exact g1 0
  refine hc_start (fun _ => none) h_scalar_Sum rfl (by kernel_rfl) (by kernel_rfl) hp ?_
  conv => whnf
  refine .inr (loop_invC (gH A _) (SumI l p cap) ?_ ?_)
  · intro k e' m' hI
    obtain ⟨i, t0, t1, N, hi, rfl, rfl, rfl⟩ := hI
    conv => whnf
    split
    · rename_i h
      have h := of_decide_eq_true h
      have hlt : i < (l.map words).length := by omega
      have hlt' : i < l.length := by simpa using hlt
      cases p with
      | none => rw [h3.1] at hlt; simp at hlt
      | some p => cases p with
        | loc _ _ => exact h3.elim
        | ext a =>
          have hget : (l.map words)[i]? = some (words l[i]) := by simp [hlt']
          have hadd := scAdd_fn (sumN_in (l.take i)) (hl _ (List.getElem_mem hlt'))
          have hs1 : (sumN (l.take i) + l[i]) % nn = sumN (l.take (i + 1)) := by
            simp only [sumN]
            rw [List.take_succ_eq_append_getElem hlt', List.foldl_append]; rfl
          rw [hs1] at hadd
          conv => whnf
          rw [dec_idx hlt]
          conv => whnf
          refine ⟨_, ERead_l (hs.agg (i := i) hget), ?_⟩
          conv => whnf
          refine ⟨_, hadd, rfl, ?_⟩
          conv => whnf
          refine ⟨(l.map words).length - (i + 1), F0, by omega, fun c N1 _ _ => ⟨_, _, wk_of (by (repeat' apply And.intro) <;> first | trivial | exact ⟨_, rfl, tv_inc hlt h1.2, rfl⟩ | exact ⟨_, rfl, rfl, rfl⟩) (by (repeat' apply And.intro) <;> first | trivial | rfl | exact ⟨_, rfl, rfl, rfl⟩) (by exact Nat.le_of_ble_eq_true rfl) (by exact Nat.le_of_ble_eq_true rfl), ⟨i + 1, t0, t1, N1, hlt, rfl, rfl, rfl⟩⟩⟩
    · rename_i h
      have h := of_decide_eq_false h
      have : i = l.length := by simp at h hi; omega
      subst this
      conv => whnf
      intro c N1 _ _
      rw [List.take_length]
      rfl
  · refine ⟨(l.map words).length, F0, fun c N1 _ _ => ⟨_, _, wk_of (by (repeat' apply And.intro) <;> first | trivial | exact ⟨_, rfl, rfl, rfl⟩ | exact ⟨_, rfl, g2 _ _, g1 _⟩) (by (repeat' apply And.intro) <;> first | trivial | rfl | exact ⟨_, rfl, rfl, rfl⟩) (by exact Nat.le_of_ble_eq_true rfl) (by exact Nat.le_of_ble_eq_true rfl), ⟨0, _, _, N1, Nat.zero_le _, rfl, rfl, rfl⟩⟩⟩
end Go.Hv
