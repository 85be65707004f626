import Derived.Test.YtejopcfkipeegaaByB
import Derived.Test.YtejopcfkipeegaaSeg
import Derived.Test.YtejopcfkipeegaaHvR
namespace Go.Hv
open Go.Ev

/-- A function that makes its result's slice. -/
theorem hco_start {A : Base} {f : FuncId} {fn : Func} {args : List TV} {K0 : Nat → Nat → Blk → Base → Prop} (ord : Nat → Option (List Nat)) (hf : PG.funcs[f]? = some fn)
    (hb : fn.body = some (bodyOf fn)) (hn : (fn.name == "runtime.NumGoroutine") = false) (hk : okCode (HHo A ord) fn.ntmps (bodyOf fn) = true) (hargs : closedTs 0 args = true)
    (h : swpC (HHo A ord) (bodyOf fn) (post (HHo A ord) fn.results fun v m => ∃ b n cap k, v = .one (.slice (some (.loc b 0)) n cap) ∧ nth m.bs b = some k ∧ closedL 0 k.cells = true ∧ K0 n cap k m.N) (ienv 0 args) M0) : HCO PG A f args K0 :=
  hco_of_call hargs (call_of_swp (gH A ord) hf hb hn hk (swpC_imp _ (fun _ _ _ h => h) h))


/-- The first k bytes of four limbs. -/
def limbL (l0 l1 l2 l3 : Int) : Nat → Int
  | 0 => l0
  | 1 => l1
  | 2 => l2
  | _ => l3

theorem cap_bytes {n : Nat} (h : n ≤ 1000000) : CapOk n 1 := ⟨by omega, by omega⟩

set_option maxHeartbeats 4000000 in
set_option maxRecDepth 100000 in
theorem r3Bytes_hco {A : Base} {l0 l1 l2 l3 : Int} (h0 : InU l0) (h1 : InU l1) (h2 : InU l2) (h3 : InU l3) : HCO PG A f_ref03_Bytes [W (val l0 l1 l2 l3)] fun n cap k _ => n = 32 ∧ 32 ≤ cap ∧ k = ⟨bcsL l0 l1 l2 l3, 5, cap * 1, true⟩ := by
  simp only [W, words_val h0 h1 h2 h3]
  refine hco_start (fun _ => none) h_ref03_Bytes rfl (by kernel_rfl) (by kernel_rfl) rfl ?_
  refine swp_cut fun K hK hR _ => ?_
  conv => whnf
  refine hK _ _ ?_
  clear hK hR
  refine swp_cut fun K hK hR _ => ?_
  conv => whnf
  refine hK _ _ ?_
  clear hK hR
  refine swp_cut fun K hK hR _ => ?_
  conv => whnf
  refine .inl ⟨5, round_cut fun K1 hK1 hX1 _ => ?_⟩
  conv => whnf
  refine .inl ⟨9, ?_⟩
  conv => whnf
  refine ⟨[_], rfl, rfl, rfl, ?_⟩
  conv => whnf
  refine ⟨cap_bytes (by omega), by omega, fun cap1 hcap1 => ?_⟩
  conv => whnf
  refine ⟨[_], rfl, rfl, rfl, ?_⟩
  conv => whnf
  refine ⟨rfl, hcap1, rfl, rfl, cap_bytes (by omega), fun cap2 hcap2 => ?_⟩
  conv => whnf
  refine ⟨[_], rfl, rfl, rfl, ?_⟩
  conv => whnf
  refine ⟨rfl, hcap2, rfl, rfl, cap_bytes (by omega), fun cap3 hcap3 => ?_⟩
  conv => whnf
  refine ⟨[_], rfl, rfl, rfl, ?_⟩
  conv => whnf
  refine ⟨rfl, hcap3, rfl, rfl, cap_bytes (by omega), fun cap4 hcap4 => ?_⟩
  conv => whnf
  refine ⟨[_], rfl, rfl, rfl, ?_⟩
  conv => whnf
  refine ⟨rfl, hcap4, rfl, rfl, cap_bytes (by omega), fun cap5 hcap5 => ?_⟩
  conv => whnf
  refine ⟨[_], rfl, rfl, rfl, ?_⟩
  conv => whnf
  refine ⟨rfl, hcap5, rfl, rfl, cap_bytes (by omega), fun cap6 hcap6 => ?_⟩
  conv => whnf
  refine ⟨[_], rfl, rfl, rfl, ?_⟩
  conv => whnf
  refine ⟨rfl, hcap6, rfl, rfl, cap_bytes (by omega), fun cap7 hcap7 => ?_⟩
  conv => whnf
  refine ⟨[_], rfl, rfl, rfl, ?_⟩
  conv => whnf
  refine ⟨rfl, hcap7, rfl, rfl, cap_bytes (by omega), fun cap8 hcap8 => ?_⟩
  conv => whnf
  refine hK1 _ _ ?_
  clear hK1 hX1
  refine round_next [(4, .one (.int .i64 (2))), (3, .one (.slice (some (.loc 16 0)) 8 cap8)), (2, .one (.slice none 0 0)), (1, .one (.ptr (some (.loc 0 0)))), (0, .agg [u l0, u l1, u l2, u l3])] ⟨[some ⟨[u l0, u l1, u l2, u l3], t_tollhouseref03_Num, 0, false⟩, some ⟨[bq l3 56], 5, 0, false⟩, none, some ⟨[bq l3 48], 5, 0, false⟩, none, some ⟨[bq l3 40], 5, 0, false⟩, none, some ⟨[bq l3 32], 5, 0, false⟩, none, some ⟨[bq l3 24], 5, 0, false⟩, none, some ⟨[bq l3 16], 5, 0, false⟩, none, some ⟨[bq l3 8], 5, 0, false⟩, none, some ⟨[bq l3 0], 5, 0, false⟩, some ⟨[bq l3 56, bq l3 48, bq l3 40, bq l3 32, bq l3 24, bq l3 16, bq l3 8, bq l3 0], 5, cap8 * 1, true⟩], M0.N⟩ rfl rfl ?_
  refine round_cut fun K1 hK1 hX1 _ => ?_
  conv => whnf
  refine .inl ⟨9, ?_⟩
  conv => whnf
  refine ⟨[_], rfl, rfl, rfl, ?_⟩
  conv => whnf
  refine ⟨rfl, hcap8, rfl, rfl, cap_bytes (by omega), fun cap9 hcap9 => ?_⟩
  conv => whnf
  refine ⟨[_], rfl, rfl, rfl, ?_⟩
  conv => whnf
  refine ⟨rfl, hcap9, rfl, rfl, cap_bytes (by omega), fun cap10 hcap10 => ?_⟩
  conv => whnf
  refine ⟨[_], rfl, rfl, rfl, ?_⟩
  conv => whnf
  refine ⟨rfl, hcap10, rfl, rfl, cap_bytes (by omega), fun cap11 hcap11 => ?_⟩
  conv => whnf
  refine ⟨[_], rfl, rfl, rfl, ?_⟩
  conv => whnf
  refine ⟨rfl, hcap11, rfl, rfl, cap_bytes (by omega), fun cap12 hcap12 => ?_⟩
  conv => whnf
  refine ⟨[_], rfl, rfl, rfl, ?_⟩
  conv => whnf
  refine ⟨rfl, hcap12, rfl, rfl, cap_bytes (by omega), fun cap13 hcap13 => ?_⟩
  conv => whnf
  refine ⟨[_], rfl, rfl, rfl, ?_⟩
  conv => whnf
  refine ⟨rfl, hcap13, rfl, rfl, cap_bytes (by omega), fun cap14 hcap14 => ?_⟩
  conv => whnf
  refine ⟨[_], rfl, rfl, rfl, ?_⟩
  conv => whnf
  refine ⟨rfl, hcap14, rfl, rfl, cap_bytes (by omega), fun cap15 hcap15 => ?_⟩
  conv => whnf
  refine ⟨[_], rfl, rfl, rfl, ?_⟩
  conv => whnf
  refine ⟨rfl, hcap15, rfl, rfl, cap_bytes (by omega), fun cap16 hcap16 => ?_⟩
  conv => whnf
  refine hK1 _ _ ?_
  clear hK1 hX1
  refine round_next [(4, .one (.int .i64 (1))), (3, .one (.slice (some (.loc 32 0)) 16 cap16)), (2, .one (.slice none 0 0)), (1, .one (.ptr (some (.loc 0 0)))), (0, .agg [u l0, u l1, u l2, u l3])] ⟨[some ⟨[u l0, u l1, u l2, u l3], t_tollhouseref03_Num, 0, false⟩, some ⟨[bq l3 56], 5, 0, false⟩, none, some ⟨[bq l3 48], 5, 0, false⟩, none, some ⟨[bq l3 40], 5, 0, false⟩, none, some ⟨[bq l3 32], 5, 0, false⟩, none, some ⟨[bq l3 24], 5, 0, false⟩, none, some ⟨[bq l3 16], 5, 0, false⟩, none, some ⟨[bq l3 8], 5, 0, false⟩, none, some ⟨[bq l3 0], 5, 0, false⟩, none, some ⟨[bq l2 56], 5, 0, false⟩, none, some ⟨[bq l2 48], 5, 0, false⟩, none, some ⟨[bq l2 40], 5, 0, false⟩, none, some ⟨[bq l2 32], 5, 0, false⟩, none, some ⟨[bq l2 24], 5, 0, false⟩, none, some ⟨[bq l2 16], 5, 0, false⟩, none, some ⟨[bq l2 8], 5, 0, false⟩, none, some ⟨[bq l2 0], 5, 0, false⟩, some ⟨[bq l3 56, bq l3 48, bq l3 40, bq l3 32, bq l3 24, bq l3 16, bq l3 8, bq l3 0, bq l2 56, bq l2 48, bq l2 40, bq l2 32, bq l2 24, bq l2 16, bq l2 8, bq l2 0], 5, cap16 * 1, true⟩], M0.N⟩ rfl rfl ?_
  refine round_cut fun K1 hK1 hX1 _ => ?_
  conv => whnf
  refine .inl ⟨9, ?_⟩
  conv => whnf
  refine ⟨[_], rfl, rfl, rfl, ?_⟩
  conv => whnf
  refine ⟨rfl, hcap16, rfl, rfl, cap_bytes (by omega), fun cap17 hcap17 => ?_⟩
  conv => whnf
  refine ⟨[_], rfl, rfl, rfl, ?_⟩
  conv => whnf
  refine ⟨rfl, hcap17, rfl, rfl, cap_bytes (by omega), fun cap18 hcap18 => ?_⟩
  conv => whnf
  refine ⟨[_], rfl, rfl, rfl, ?_⟩
  conv => whnf
  refine ⟨rfl, hcap18, rfl, rfl, cap_bytes (by omega), fun cap19 hcap19 => ?_⟩
  conv => whnf
  refine ⟨[_], rfl, rfl, rfl, ?_⟩
  conv => whnf
  refine ⟨rfl, hcap19, rfl, rfl, cap_bytes (by omega), fun cap20 hcap20 => ?_⟩
  conv => whnf
  refine ⟨[_], rfl, rfl, rfl, ?_⟩
  conv => whnf
  refine ⟨rfl, hcap20, rfl, rfl, cap_bytes (by omega), fun cap21 hcap21 => ?_⟩
  conv => whnf
  refine ⟨[_], rfl, rfl, rfl, ?_⟩
  conv => whnf
  refine ⟨rfl, hcap21, rfl, rfl, cap_bytes (by omega), fun cap22 hcap22 => ?_⟩
  conv => whnf
  refine ⟨[_], rfl, rfl, rfl, ?_⟩
  conv => whnf
  refine ⟨rfl, hcap22, rfl, rfl, cap_bytes (by omega), fun cap23 hcap23 => ?_⟩
  conv => whnf
  refine ⟨[_], rfl, rfl, rfl, ?_⟩
  conv => whnf
  refine ⟨rfl, hcap23, rfl, rfl, cap_bytes (by omega), fun cap24 hcap24 => ?_⟩
  conv => whnf
  refine hK1 _ _ ?_
  clear hK1 hX1
  refine round_next [(4, .one (.int .i64 (0))), (3, .one (.slice (some (.loc 48 0)) 24 cap24)), (2, .one (.slice none 0 0)), (1, .one (.ptr (some (.loc 0 0)))), (0, .agg [u l0, u l1, u l2, u l3])] ⟨[some ⟨[u l0, u l1, u l2, u l3], t_tollhouseref03_Num, 0, false⟩, some ⟨[bq l3 56], 5, 0, false⟩, none, some ⟨[bq l3 48], 5, 0, false⟩, none, some ⟨[bq l3 40], 5, 0, false⟩, none, some ⟨[bq l3 32], 5, 0, false⟩, none, some ⟨[bq l3 24], 5, 0, false⟩, none, some ⟨[bq l3 16], 5, 0, false⟩, none, some ⟨[bq l3 8], 5, 0, false⟩, none, some ⟨[bq l3 0], 5, 0, false⟩, none, some ⟨[bq l2 56], 5, 0, false⟩, none, some ⟨[bq l2 48], 5, 0, false⟩, none, some ⟨[bq l2 40], 5, 0, false⟩, none, some ⟨[bq l2 32], 5, 0, false⟩, none, some ⟨[bq l2 24], 5, 0, false⟩, none, some ⟨[bq l2 16], 5, 0, false⟩, none, some ⟨[bq l2 8], 5, 0, false⟩, none, some ⟨[bq l2 0], 5, 0, false⟩, none, some ⟨[bq l1 56], 5, 0, false⟩, none, some ⟨[bq l1 48], 5, 0, false⟩, none, some ⟨[bq l1 40], 5, 0, false⟩, none, some ⟨[bq l1 32], 5, 0, false⟩, none, some ⟨[bq l1 24], 5, 0, false⟩, none, some ⟨[bq l1 16], 5, 0, false⟩, none, some ⟨[bq l1 8], 5, 0, false⟩, none, some ⟨[bq l1 0], 5, 0, false⟩, some ⟨[bq l3 56, bq l3 48, bq l3 40, bq l3 32, bq l3 24, bq l3 16, bq l3 8, bq l3 0, bq l2 56, bq l2 48, bq l2 40, bq l2 32, bq l2 24, bq l2 16, bq l2 8, bq l2 0, bq l1 56, bq l1 48, bq l1 40, bq l1 32, bq l1 24, bq l1 16, bq l1 8, bq l1 0], 5, cap24 * 1, true⟩], M0.N⟩ rfl rfl ?_
  refine round_cut fun K1 hK1 hX1 _ => ?_
  conv => whnf
  refine .inl ⟨9, ?_⟩
  conv => whnf
  refine ⟨[_], rfl, rfl, rfl, ?_⟩
  conv => whnf
  refine ⟨rfl, hcap24, rfl, rfl, cap_bytes (by omega), fun cap25 hcap25 => ?_⟩
  conv => whnf
  refine ⟨[_], rfl, rfl, rfl, ?_⟩
  conv => whnf
  refine ⟨rfl, hcap25, rfl, rfl, cap_bytes (by omega), fun cap26 hcap26 => ?_⟩
  conv => whnf
  refine ⟨[_], rfl, rfl, rfl, ?_⟩
  conv => whnf
  refine ⟨rfl, hcap26, rfl, rfl, cap_bytes (by omega), fun cap27 hcap27 => ?_⟩
  conv => whnf
  refine ⟨[_], rfl, rfl, rfl, ?_⟩
  conv => whnf
  refine ⟨rfl, hcap27, rfl, rfl, cap_bytes (by omega), fun cap28 hcap28 => ?_⟩
  conv => whnf
  refine ⟨[_], rfl, rfl, rfl, ?_⟩
  conv => whnf
  refine ⟨rfl, hcap28, rfl, rfl, cap_bytes (by omega), fun cap29 hcap29 => ?_⟩
  conv => whnf
  refine ⟨[_], rfl, rfl, rfl, ?_⟩
  conv => whnf
  refine ⟨rfl, hcap29, rfl, rfl, cap_bytes (by omega), fun cap30 hcap30 => ?_⟩
  conv => whnf
  refine ⟨[_], rfl, rfl, rfl, ?_⟩
  conv => whnf
  refine ⟨rfl, hcap30, rfl, rfl, cap_bytes (by omega), fun cap31 hcap31 => ?_⟩
  conv => whnf
  refine ⟨[_], rfl, rfl, rfl, ?_⟩
  conv => whnf
  refine ⟨rfl, hcap31, rfl, rfl, cap_bytes (by omega), fun cap32 hcap32 => ?_⟩
  conv => whnf
  refine hK1 _ _ ?_
  clear hK1 hX1
  refine round_next [(4, .one (.int .i64 (-1))), (3, .one (.slice (some (.loc 64 0)) 32 cap32)), (2, .one (.slice none 0 0)), (1, .one (.ptr (some (.loc 0 0)))), (0, .agg [u l0, u l1, u l2, u l3])] ⟨[some ⟨[u l0, u l1, u l2, u l3], t_tollhouseref03_Num, 0, false⟩, some ⟨[bq l3 56], 5, 0, false⟩, none, some ⟨[bq l3 48], 5, 0, false⟩, none, some ⟨[bq l3 40], 5, 0, false⟩, none, some ⟨[bq l3 32], 5, 0, false⟩, none, some ⟨[bq l3 24], 5, 0, false⟩, none, some ⟨[bq l3 16], 5, 0, false⟩, none, some ⟨[bq l3 8], 5, 0, false⟩, none, some ⟨[bq l3 0], 5, 0, false⟩, none, some ⟨[bq l2 56], 5, 0, false⟩, none, some ⟨[bq l2 48], 5, 0, false⟩, none, some ⟨[bq l2 40], 5, 0, false⟩, none, some ⟨[bq l2 32], 5, 0, false⟩, none, some ⟨[bq l2 24], 5, 0, false⟩, none, some ⟨[bq l2 16], 5, 0, false⟩, none, some ⟨[bq l2 8], 5, 0, false⟩, none, some ⟨[bq l2 0], 5, 0, false⟩, none, some ⟨[bq l1 56], 5, 0, false⟩, none, some ⟨[bq l1 48], 5, 0, false⟩, none, some ⟨[bq l1 40], 5, 0, false⟩, none, some ⟨[bq l1 32], 5, 0, false⟩, none, some ⟨[bq l1 24], 5, 0, false⟩, none, some ⟨[bq l1 16], 5, 0, false⟩, none, some ⟨[bq l1 8], 5, 0, false⟩, none, some ⟨[bq l1 0], 5, 0, false⟩, none, some ⟨[bq l0 56], 5, 0, false⟩, none, some ⟨[bq l0 48], 5, 0, false⟩, none, some ⟨[bq l0 40], 5, 0, false⟩, none, some ⟨[bq l0 32], 5, 0, false⟩, none, some ⟨[bq l0 24], 5, 0, false⟩, none, some ⟨[bq l0 16], 5, 0, false⟩, none, some ⟨[bq l0 8], 5, 0, false⟩, none, some ⟨[bq l0 0], 5, 0, false⟩, some ⟨[bq l3 56, bq l3 48, bq l3 40, bq l3 32, bq l3 24, bq l3 16, bq l3 8, bq l3 0, bq l2 56, bq l2 48, bq l2 40, bq l2 32, bq l2 24, bq l2 16, bq l2 8, bq l2 0, bq l1 56, bq l1 48, bq l1 40, bq l1 32, bq l1 24, bq l1 16, bq l1 8, bq l1 0, bq l0 56, bq l0 48, bq l0 40, bq l0 32, bq l0 24, bq l0 16, bq l0 8, bq l0 0], 5, cap32 * 1, true⟩], M0.N⟩ rfl rfl ?_
  refine round_cut fun K1 hK1 hX1 _ => ?_
  conv => whnf
  refine hX1 _ _ _ ?_
  conv => whnf
  refine hK _ _ ?_
  conv => whnf
  exact ⟨_, _, _, _, rfl, rfl, rfl, rfl, hcap32, rfl⟩

end Go.Hv
