import Derived.Test.YtejopcfkipeegaaFeA
import Derived.Test.YtejopcfkipeegaaWq
import Derived.Test.YtejopcfkipeegaaHs
namespace Go.Hv
open Go.Ev

/-- One round of a loop that is unrolled; what comes behind is only a name meanwhile. -/
theorem round_cut {G : Cfg} {b : Code} {d : List Nat} {Q : Exit → Env → HM → Prop} {k : Nat} {e : Env} {m : HM}
    (h : ∀ K : Exit → Env → HM → Prop, (∀ e' m', restr (fun e'' => loopNC (swpC G b) d Q k e'' m') e' d [] → K .normal e' m') → (∀ i e' m', Q (.exit i) e' m' → K (.exit i) e' m') → (∀ e' m', Q .ret e' m' → K .ret e' m') → swpC G b K e m) :
    loopNC (swpC G b) d Q (k + 1) e m := by
  refine h _ (fun _ _ h => h) (fun _ _ _ h => h) (fun _ _ h => h)

theorem loop_start {G : Cfg} {b : Code} {Q : Exit → Env → HM → Prop} {k : Nat} {e : Env} {m : HM} (h : loopNC (swpC G b) (dom e []) Q k e m) : swpC G (.loop b) Q e m := .inl ⟨k, h⟩


def restrE (e : Env) : List Nat → Env → Env
  | [], acc => acc
  | t :: ts, acc => match get e t with
    | some v => restrE e ts ((t, v) :: acc)
    | none => restrE e ts acc

theorem restr_to {K : Env → Prop} {e : Env} : ∀ {l : List Nat} {acc : Env}, K (restrE e l acc) → restr K e l acc
  | [], _, h => h
  | t :: ts, acc, h => by
    simp only [restrE] at h
    simp only [restr]
    split at h
    · rename_i hh; simp only [hh]; exact restr_to h
    · rename_i hh; simp only [hh]; exact restr_to h

theorem round_next {b : (Exit → Env → HM → Prop) → Env → HM → Prop} {d : List Nat} {Q : Exit → Env → HM → Prop} {k : Nat} {e' : Env} {m' : HM} (E : Env) (M : HM) (he : restrE e' d [] = E) (hm : m' = M) (h : loopNC b d Q k E M) :
    restr (fun e'' => loopNC b d Q k e'' m') e' d [] := by
  subst he hm
  exact restr_to h

def bq (l : Int) (k : Nat) : Sc := .int .u8 (IntKind.u8.wrap (l.fdiv (2 ^ k)))

def bcs1 (y : Int) : List Sc := [Sc.int .u8 0, Sc.int .u8 0, Sc.int .u8 0, Sc.int .u8 0, Sc.int .u8 0, Sc.int .u8 0, Sc.int .u8 0, Sc.int .u8 0, Sc.int .u8 0, Sc.int .u8 0, Sc.int .u8 0, Sc.int .u8 0, Sc.int .u8 0, Sc.int .u8 0, Sc.int .u8 0, Sc.int .u8 0, Sc.int .u8 0, Sc.int .u8 0, Sc.int .u8 0, Sc.int .u8 0, Sc.int .u8 0, Sc.int .u8 0, Sc.int .u8 0, Sc.int .u8 0, bq (y % 18446744073709551616) 56, bq (y % 18446744073709551616) 48, bq (y % 18446744073709551616) 40, bq (y % 18446744073709551616) 32, bq (y % 18446744073709551616) 24, bq (y % 18446744073709551616) 16, bq (y % 18446744073709551616) 8, bq (y % 18446744073709551616) 0]
def bcs2 (y : Int) : List Sc := [Sc.int .u8 0, Sc.int .u8 0, Sc.int .u8 0, Sc.int .u8 0, Sc.int .u8 0, Sc.int .u8 0, Sc.int .u8 0, Sc.int .u8 0, Sc.int .u8 0, Sc.int .u8 0, Sc.int .u8 0, Sc.int .u8 0, Sc.int .u8 0, Sc.int .u8 0, Sc.int .u8 0, Sc.int .u8 0, bq (y / 18446744073709551616 % 18446744073709551616) 56, bq (y / 18446744073709551616 % 18446744073709551616) 48, bq (y / 18446744073709551616 % 18446744073709551616) 40, bq (y / 18446744073709551616 % 18446744073709551616) 32, bq (y / 18446744073709551616 % 18446744073709551616) 24, bq (y / 18446744073709551616 % 18446744073709551616) 16, bq (y / 18446744073709551616 % 18446744073709551616) 8, bq (y / 18446744073709551616 % 18446744073709551616) 0, bq (y % 18446744073709551616) 56, bq (y % 18446744073709551616) 48, bq (y % 18446744073709551616) 40, bq (y % 18446744073709551616) 32, bq (y % 18446744073709551616) 24, bq (y % 18446744073709551616) 16, bq (y % 18446744073709551616) 8, bq (y % 18446744073709551616) 0]
def bcs3 (y : Int) : List Sc := [Sc.int .u8 0, Sc.int .u8 0, Sc.int .u8 0, Sc.int .u8 0, Sc.int .u8 0, Sc.int .u8 0, Sc.int .u8 0, Sc.int .u8 0, bq (y / 340282366920938463463374607431768211456 % 18446744073709551616) 56, bq (y / 340282366920938463463374607431768211456 % 18446744073709551616) 48, bq (y / 340282366920938463463374607431768211456 % 18446744073709551616) 40, bq (y / 340282366920938463463374607431768211456 % 18446744073709551616) 32, bq (y / 340282366920938463463374607431768211456 % 18446744073709551616) 24, bq (y / 340282366920938463463374607431768211456 % 18446744073709551616) 16, bq (y / 340282366920938463463374607431768211456 % 18446744073709551616) 8, bq (y / 340282366920938463463374607431768211456 % 18446744073709551616) 0, bq (y / 18446744073709551616 % 18446744073709551616) 56, bq (y / 18446744073709551616 % 18446744073709551616) 48, bq (y / 18446744073709551616 % 18446744073709551616) 40, bq (y / 18446744073709551616 % 18446744073709551616) 32, bq (y / 18446744073709551616 % 18446744073709551616) 24, bq (y / 18446744073709551616 % 18446744073709551616) 16, bq (y / 18446744073709551616 % 18446744073709551616) 8, bq (y / 18446744073709551616 % 18446744073709551616) 0, bq (y % 18446744073709551616) 56, bq (y % 18446744073709551616) 48, bq (y % 18446744073709551616) 40, bq (y % 18446744073709551616) 32, bq (y % 18446744073709551616) 24, bq (y % 18446744073709551616) 16, bq (y % 18446744073709551616) 8, bq (y % 18446744073709551616) 0]
def bcs4 (y : Int) : List Sc := [bq (y / 6277101735386680763835789423207666416102355444464034512896 % 18446744073709551616) 56, bq (y / 6277101735386680763835789423207666416102355444464034512896 % 18446744073709551616) 48, bq (y / 6277101735386680763835789423207666416102355444464034512896 % 18446744073709551616) 40, bq (y / 6277101735386680763835789423207666416102355444464034512896 % 18446744073709551616) 32, bq (y / 6277101735386680763835789423207666416102355444464034512896 % 18446744073709551616) 24, bq (y / 6277101735386680763835789423207666416102355444464034512896 % 18446744073709551616) 16, bq (y / 6277101735386680763835789423207666416102355444464034512896 % 18446744073709551616) 8, bq (y / 6277101735386680763835789423207666416102355444464034512896 % 18446744073709551616) 0, bq (y / 340282366920938463463374607431768211456 % 18446744073709551616) 56, bq (y / 340282366920938463463374607431768211456 % 18446744073709551616) 48, bq (y / 340282366920938463463374607431768211456 % 18446744073709551616) 40, bq (y / 340282366920938463463374607431768211456 % 18446744073709551616) 32, bq (y / 340282366920938463463374607431768211456 % 18446744073709551616) 24, bq (y / 340282366920938463463374607431768211456 % 18446744073709551616) 16, bq (y / 340282366920938463463374607431768211456 % 18446744073709551616) 8, bq (y / 340282366920938463463374607431768211456 % 18446744073709551616) 0, bq (y / 18446744073709551616 % 18446744073709551616) 56, bq (y / 18446744073709551616 % 18446744073709551616) 48, bq (y / 18446744073709551616 % 18446744073709551616) 40, bq (y / 18446744073709551616 % 18446744073709551616) 32, bq (y / 18446744073709551616 % 18446744073709551616) 24, bq (y / 18446744073709551616 % 18446744073709551616) 16, bq (y / 18446744073709551616 % 18446744073709551616) 8, bq (y / 18446744073709551616 % 18446744073709551616) 0, bq (y % 18446744073709551616) 56, bq (y % 18446744073709551616) 48, bq (y % 18446744073709551616) 40, bq (y % 18446744073709551616) 32, bq (y % 18446744073709551616) 24, bq (y % 18446744073709551616) 16, bq (y % 18446744073709551616) 8, bq (y % 18446744073709551616) 0]

set_option maxRecDepth 100000 in
theorem feBytes_fn {x : Int} (hx : InW x) : Ev.Fn PG f_fe_Bytes [W x] (.agg (bcs4 (x % pp))) := by
  refine fn_startH (fun _ => none) h_fe_Bytes rfl (by kernel_rfl) (fun _ => by kernel_rfl) rfl rfl fun A => ?_
  have n1 := norm_fn hx
  generalize x % pp = y at *
  refine swp_cut fun K hK _ _ => ?_
  conv => whnf
  refine hK _ _ (swp_cut fun K hK _ _ => ?_)
  conv => whnf
  refine hK _ _ (swp_cut fun K hK _ hR0 => ?_)
  conv => whnf
  refine ⟨_, n1, rfl, ?_⟩
  conv => whnf
  refine .inl ⟨5, round_cut fun K1 hK1 hX1 _ => ?_⟩
  conv => whnf
  refine .inl ⟨9, ?_⟩
  conv => whnf
  refine hK1 _ _ ?_
  clear hK1 hX1
  refine round_next [(9, .one (.int .i64 1)), (8, W y), (7, W x), (3, .one (.ptr (some (.loc 2 0)))), (2, .one (.ptr (some (.loc 1 0)))), (1, .one (.ptr (some (.loc 0 0)))), (0, W x)] ⟨[some ⟨words x, t_api_Fe, 0, false⟩, some ⟨List.replicate 32 (Sc.int IntKind.u8 0), t_a32_uint8, 0, false⟩, some ⟨bcs1 y, t_a32_uint8, 0, false⟩], _⟩ rfl rfl ?_
  refine round_cut fun K1 hK1 hX1 _ => ?_
  conv => whnf
  refine .inl ⟨9, ?_⟩
  conv => whnf
  refine hK1 _ _ ?_
  clear hK1 hX1
  refine round_next [(9, .one (.int .i64 2)), (8, W y), (7, W x), (3, .one (.ptr (some (.loc 2 0)))), (2, .one (.ptr (some (.loc 1 0)))), (1, .one (.ptr (some (.loc 0 0)))), (0, W x)] ⟨[some ⟨words x, t_api_Fe, 0, false⟩, some ⟨List.replicate 32 (Sc.int IntKind.u8 0), t_a32_uint8, 0, false⟩, some ⟨bcs2 y, t_a32_uint8, 0, false⟩], _⟩ rfl rfl ?_
  refine round_cut fun K1 hK1 hX1 _ => ?_
  conv => whnf
  refine .inl ⟨9, ?_⟩
  conv => whnf
  refine hK1 _ _ ?_
  clear hK1 hX1
  refine round_next [(9, .one (.int .i64 3)), (8, W y), (7, W x), (3, .one (.ptr (some (.loc 2 0)))), (2, .one (.ptr (some (.loc 1 0)))), (1, .one (.ptr (some (.loc 0 0)))), (0, W x)] ⟨[some ⟨words x, t_api_Fe, 0, false⟩, some ⟨List.replicate 32 (Sc.int IntKind.u8 0), t_a32_uint8, 0, false⟩, some ⟨bcs3 y, t_a32_uint8, 0, false⟩], _⟩ rfl rfl ?_
  refine round_cut fun K1 hK1 hX1 _ => ?_
  conv => whnf
  refine .inl ⟨9, ?_⟩
  conv => whnf
  refine hK1 _ _ ?_
  clear hK1 hX1
  refine round_next [(9, .one (.int .i64 4)), (8, W y), (7, W x), (3, .one (.ptr (some (.loc 2 0)))), (2, .one (.ptr (some (.loc 1 0)))), (1, .one (.ptr (some (.loc 0 0)))), (0, W x)] ⟨[some ⟨words x, t_api_Fe, 0, false⟩, some ⟨List.replicate 32 (Sc.int IntKind.u8 0), t_a32_uint8, 0, false⟩, some ⟨bcs4 y, t_a32_uint8, 0, false⟩], _⟩ rfl rfl ?_
  refine round_cut fun K1 hK1 hX1 _ => ?_
  conv => whnf
  refine hX1 _ _ _ ?_
  conv => whnf
  refine hK _ _ ?_
  conv => whnf
  intro c N2 _ _
  rfl

end Go.Hv
