import Derived.Test.YtejopcfkipeegaaCuG
import Derived.Test.YtejopcfkipeegaaFer
namespace Go.Hv
open Go.Ev Go.Ec

theorem r5Decode_no {A : Base} {s : TV} {L : List Sc} (hn : L.length ≠ 33) (hs : Sl A 1 s (ones L)) : HC PG A f_ref05_Decode [s] fun v _ => v = .tup [.agg (ptC 0 0 true), .one (.bool false)] := by
  obtain ⟨p, cap, rfl, g1, g2, g3⟩ := id hs
  refine hc_start ordDec h_ref05_Decode rfl (by kernel_rfl) (by kernel_rfl) (ones_hp hs) ?_
  have c0 := r5zero_fn
  rw [ones_len]
  generalize L.length = n at hn
  have hd : (((n : Nat) : Int) != 33) = true := by
    simp only [bne_iff_ne, ne_eq]
    omega
  refine swp_cut fun K hK hR _ => ?_
  conv => whnf
  refine hK _ _ ?_
  clear hK hR
  refine swp_cut fun K1 hK1 hR1 _ => swp_cut fun K hK hR _ => ?_
  conv => whnf
  refine hK _ _ ?_
  clear hK hR
  rw [hd]
  conv => whnf
  refine ⟨_, c0, rfl, ?_⟩
  conv => whnf
  refine hR1 _ _ ?_
  conv => whnf
  intro c N2 _ _
  rfl

theorem toList_loop (bs : ByteArray) : ∀ (k i : Nat) (r : List UInt8), k = bs.size - i → ByteArray.toList.loop bs i r = r.reverse ++ bs.data.toList.drop i
  | 0, i, r, h => by
    unfold ByteArray.toList.loop
    have hi : ¬ i < bs.size := by omega
    rw [if_neg hi, List.drop_eq_nil_of_le (by have : bs.data.toList.length = bs.size := rfl; omega)]
    simp
  | k + 1, i, r, h => by
    unfold ByteArray.toList.loop
    have hi : i < bs.size := by omega
    rw [if_pos hi, toList_loop bs k (i + 1) _ (by omega)]
    have hl : i < bs.data.toList.length := hi
    rw [List.drop_eq_getElem_cons hl]
    have : bs.get! i = bs.data.toList[i] := by
      cases bs with
      | mk d => 
        show d[i]! = _
        simp only [Array.getElem_toList]
        exact getElem!_pos d i hi
    rw [this]
    simp

theorem toList_eq (bs : ByteArray) : bs.toList = bs.data.toList := by
  unfold ByteArray.toList
  rw [toList_loop bs _ 0 [] rfl]
  simp

theorem eqB_iff {l l' : List Sc} (h : isB l) (h' : isB l') : eqB l l' = decide (l.map scI = l'.map scI) := by
  unfold eqB
  rw [toList_eq, toList_eq]
  have key : ∀ {a b : List Int}, (∀ z ∈ a, 0 ≤ z ∧ z < 256) → (∀ z ∈ b, 0 ≤ z ∧ z < 256) → (a.map (fun n => UInt8.ofNat n.toNat) = b.map (fun n => UInt8.ofNat n.toNat)) → a = b := by
    intro a
    induction a with
    | nil => intro b _ _ hh; cases b with
      | nil => rfl
      | cons y b => simp at hh
    | cons x a ih => intro b ha hb hh; cases b with
      | nil => simp at hh
      | cons y b =>
        simp only [List.map_cons, List.cons.injEq] at hh
        have e := ih (fun z hz => ha z (by simp [hz])) (fun z hz => hb z (by simp [hz])) hh.2
        have hx := ha x (by simp)
        have hy := hb y (by simp)
        have := congrArg UInt8.toNat hh.1
        rw [UInt8.toNat_ofNat', UInt8.toNat_ofNat'] at this
        rw [e]
        congr 1
        omega
  rw [Bool.eq_iff_iff]
  simp only [beq_iff_eq, decide_eq_true_eq]
  constructor
  · intro hh
    exact key (isB_lt h) (isB_lt h') hh
  · intro hh
    rw [hh]

end Go.Hv
