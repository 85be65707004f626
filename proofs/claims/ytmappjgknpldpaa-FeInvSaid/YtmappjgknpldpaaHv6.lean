import Derived.Test.YtmappjgknpldpaaHv5
namespace Go.Hv
open Go.Ev
section
variable {G : Cfg} {c : Con} {m : HM} {e e' : Env} {a : Act} {w : World}

theorem bytesS_get : ∀ (l : List Int) (i : Nat), (bytesS l)[i]? = (l[i]?).map byteS
  | [], i => by simp [bytesS]
  | n :: l, 0 => by simp [bytesS]
  | n :: l, i + 1 => by simp [bytesS, bytesS_get l i]

@[simp] theorem bytesS_length : ∀ l : List Int, (bytesS l).length = l.length
  | [] => rfl
  | n :: l => by simp [bytesS, bytesS_length l]

theorem bytesS_map (c : Con) : ∀ l : List Int, (bytesS l).map (Sc.conc c) = l.map (Value.int .u8)
  | [] => rfl
  | n :: l => by simp [bytesS, byteS, Sc.conc, bytesS_map c l]

/-- Bytes to a string. -/
theorem run_bytes_forIn {P : Program} {f : Value → ByteArray → Sem (ForInStep ByteArray)} (hf : ∀ n s, f (.int .u8 n) s = pure (.yield (s.push (UInt8.ofNat n.toNat)))) (l : List Int) : ∀ (s : ByteArray) (w : World),
    (forIn (m := Sem) (l.map (Value.int .u8)) s f).run P w = .ok ⟨s.data ++ (l.map fun n => UInt8.ofNat n.toNat).toArray⟩ w := by
  induction l with
  | nil => intro s w; simp
  | cons n l ih =>
    intro s w
    simp only [List.map_cons, List.forIn_cons, hf, pure_bind]
    rw [ih]
    simp [ByteArray.push]

theorem run_bytesToString {P : Program} {x : Value} {l : List Int} (h : (Builtin.firstCells 1 l.length x).run P w = .ok (l.map (Value.int .u8)).toArray w) (hx : ∃ p cap, x = .slice p l.length cap) (h0 : ∀ cap n, x = .slice none n cap → l = []) :
    (Conv.bytesToString x).run P w = .ok (.string (strOf l)) w := by
  obtain ⟨p, cap, rfl⟩ := hx
  unfold Conv.bytesToString
  cases p with
  | none =>
    have := h0 _ _ rfl
    subst this
    rfl
  | some a =>
    simp only [Builtin.firstCells, Nat.mul_one] at h
    simp only [Sem.run_bind, h, Result.andThen_ok]
    simp only [List.forIn_toArray]
    rw [run_bytes_forIn (fun _ _ => rfl)]
    simp [strOf, ByteArray.empty, ByteArray.emptyWithCapacity]
    rfl

theorem run_stringToBytes {P : Program} {el : TypeId} {s : ByteArray} (hs : s.size < 2 ^ 63) (w : World) : ∃ cap, s.size ≤ cap ∧ (Conv.stringToBytes el s).run P w = .ok (.slice (some ⟨w.heap.size, 0, none⟩) s.size cap)
    { w with heap := w.heap.push (.cells ((s.data.map fun b => Value.int .u8 b.toNat) ++ Array.replicate (cap - s.size) (.int .u8 0)) el (s.data.size + (cap - s.size), s.data.size + (cap - s.size) + 1)), drawn := w.drawn + 1 } := by
  obtain ⟨cap, hcap, hch⟩ := run_choose_cap (P := P) (need := s.size) (old := 0) (el := el) hs w
  refine ⟨cap, hcap, ?_⟩
  simp only [Conv.stringToBytes, Sem.run_bind, hch, Result.andThen_ok, newRow, run_newObj, Sem.run_pure]
  simp [markStringish, shape, freeze, Sem.run, World.shape?, World.freeze]
  apply Array.ext_getElem?
  intro j
  simp only [Array.getElem?_modify, Array.getElem?_push]
  split <;> split <;> simp_all

theorem aconv_sound (hG : CfgOk G) (hr : Rel G.A c m w) (hf : Fits c m.bs.length e a) {o : Oper} {s d : TypeId} {x : Operand} (ho : o.op = .convert s d x) {v : TV} (hv : opv e x = some v) {K : TV → HM → Prop} (h : aconv G s d v m K) : OpGoes G o c m a w K := by
  obtain ⟨h0, hcl⟩ := opv_sound hf hv
  have hrun : (execOp a.eval o).run G.P w = (do pure (.value (← convert s d (v.conc c))) : Sem Next).run G.P w := by
    simp only [execOp, ho, h0]
  unfold aconv at h
  split at h
  · rename_i el es eb ag _ _ _ _ hs hd
    split at h
    · rename_i n hel hn
      obtain ⟨l, hlen, hl, hlr, hK⟩ := h
      obtain ⟨hu, hie, hue, hse, _, _⟩ := (hG.tys _ _ hs).k
      have hud : G.P.underlying d = some .string := (hG.tys _ _ hd).k
      have huel : G.P.underlying el = some (.int .u8) := (hG.tys _ _ hel).k
      refine .of_value ?_ hr (Since.refl c m w) rfl hK
      rw [hrun]
      apply run_value'
      obtain ⟨p, cap, hp⟩ := lenS_conc (c := c) hn
      have hfc := (sliceHas_run (P := G.P) (size := 1) hr hl (by simp [hlen]) (by omega) hn).1
      rw [bytesS_map] at hfc
      have hres : (Conv.bytesToString (v.conc c)).run G.P w = .ok (.string (strOf l)) w := by
        subst hlen
        refine run_bytesToString hfc ⟨_, _, hp⟩ (fun cap' n' e => ?_)
        rw [e] at hfc
        simp [Builtin.firstCells] at hfc
        exact hfc
      rw [hp] at hres ⊢
      simp only [convert, Sem.run_bind, r_underlying hu, r_underlying hud, Result.andThen_ok, r_underlying huel, hres]
      simp [TV.conc, Sc.conc]
    · exact h.elim
  · rename_i el es eb ag hs hd
    split at h
    · rename_i t hel
      obtain ⟨ht63, hK⟩ := h
      obtain ⟨hu, hie, hue, hse, _, _⟩ := (hG.tys _ _ hd).k
      have hus : G.P.underlying s = some .string := (hG.tys _ _ hs).k
      have huel : G.P.underlying el = some (.int .u8) := (hG.tys _ _ hel).k
      obtain ⟨cap, hcap, hst⟩ := run_stringToBytes (P := G.P) (el := el) (s := t) (by omega) w
      obtain ⟨arr, harr⟩ : ∃ arr, arr = (t.data.map fun b => Value.int .u8 b.toNat) ++ Array.replicate (cap - t.size) (.int .u8 0) := ⟨_, rfl⟩
      obtain ⟨fz, hfz⟩ : ∃ fz, fz = (t.data.size + (cap - t.size), t.data.size + (cap - t.size) + 1) := ⟨_, rfl⟩
      rw [← harr, ← hfz] at hst
      obtain ⟨obj, hobj⟩ : ∃ obj, obj = Obj.cells arr el fz := ⟨_, rfl⟩
      rw [← hobj] at hst
      have hkeep : ∀ r, r < w.heap.size → (World.mk (w.heap.push obj) w.tape (w.drawn + 1) w.os w.output).heap[r]? = w.heap[r]? := fun r hr' => by
        simp only [Array.getElem?_push]; rw [if_neg (by omega)]
      have hsame : Same w (World.mk (w.heap.push obj) w.tape (w.drawn + 1) w.os w.output) := ⟨by simp, rfl, rfl, rfl⟩
      let N1 : Base := fun r o => m.N r o ∨ (r = w.heap.size ∧ o = obj)
      have hN1 : BaseIn N1 (World.mk (w.heap.push obj) w.tape (w.drawn + 1) w.os w.output) := fun r o hr' => by
        rcases hr' with h' | ⟨rfl, rfl⟩
        · exact baseIn_keep hr.baseN hkeep r o h'
        · simp
      have hf1 : ∀ r o, N1 r o → m.N r o ∨ w.heap.size ≤ r := fun r o h' => h'.elim .inl fun h' => .inr (by omega)
      refine .of_value (v := .one (.slice (some (.ext ⟨w.heap.size, 0, none⟩)) t.size cap)) ?_ (hr.more hkeep hsame.size hN1 hf1) (Since.still hsame hkeep hf1) rfl
        (hK ⟨w.heap.size, 0, none⟩ cap N1 hcap rfl rfl (fun r o h' => .inl h') (fun i b hb => ?_))
      · rw [hrun]
        apply run_value'
        simp only [TV.conc, Sc.conc, Option.map_some, SP.conc]
        simp only [convert, Sem.run_bind, r_underlying hu, r_underlying hus, Result.andThen_ok, r_underlying huel, hst]
      · refine ⟨_, _, _, .inr ⟨?_, hobj.symm⟩, ?_, ?_⟩
        · unfold Addr.add; split <;> rfl
        · unfold Addr.add; split <;> rfl
        · have hlt : i < t.data.size := (Array.getElem?_eq_some_iff.1 hb).1
          have : (Addr.add ⟨w.heap.size, 0, none⟩ i).off = i := by unfold Addr.add; split <;> simp_all
          rw [this, harr, Array.getElem?_append_left (by simpa using hlt)]
          simp [hb]
    · exact h.elim
  · exact h.elim

theorem amake_sound (hG : CfgOk G) (hr : Rel G.A c m w) (hf : Fits c m.bs.length e a) {o : Oper} {t : TypeId} {x y : Operand} (ho : o.op = .makeSlice t x y) {u v : TV} (hu : opv e x = some u) (hv : opv e y = some v) {K : TV → HM → Prop} (h : amake G t u v m K) : OpGoes G o c m a w K := by
  obtain ⟨h0, hcl0⟩ := opv_sound hf hu
  obtain ⟨h0', hcl1⟩ := opv_sound hf hv
  unfold amake at h
  split at h
  · rename_i el es eb ag l k ht
    split at h
    · rename_i i hi
      obtain ⟨⟨hl0, rfl, hc63, hby, hzl⟩, hK⟩ := h
      obtain ⟨hun, hie, hue, hse, hbe, _⟩ := (hG.tys _ _ ht).k
      have hrow := hG.tys _ _ hi
      obtain ⟨inf, hinf⟩ := Option.isSome_iff_exists.1 hie
      have hbytes : inf.bytes = eb := by rw [← hbe]; simp [Program.bytesOf, hinf]
      obtain ⟨z, hz1, hz2⟩ := hrow.zero c w
      rw [snoc_eq] at hK
      have hrc : closedL m.bs.length (repS l.toNat i.zero) = true := repS_closed (closedL_mono (Nat.zero_le _) hrow.zc) l.toNat
      obtain ⟨h1, h2⟩ := hr.push (t := el) hrc
      refine .of_value ?_ h1 h2 (by simp [TV.closed, Sc.closed, SP.closed]) hK
      simp only [execOp, ho, h0, h0']
      apply run_value'
      have this : (Con.add c m.bs.length w.heap.size 0).ι m.bs.length = w.heap.size := by simp [Con.add]
      have hwr : IntKind.i64.wrap l = l := by simp only [IntKind.wrap, IntKind.signed, IntKind.bits]; simp; omega
      have hcond : ¬ ((((decide (l < 0) || decide ((inf.bytes : Int) * l > 2 ^ 48)) || decide (l < 0)) || decide (l > l)) = true) := by
        rw [hbytes]; simp; omega
      have hrep := repS_conc c l.toNat es i.zero hzl
      simp only [TV.conc, Sc.conc, Instr.makeSlice, Sem.run_bind, r_underlying hun, Result.andThen_ok]
      have ai : ∀ (w : World), (asInt (.int .i64 l)).run G.P w = .ok l w := fun w => by simp [asInt, asIntOf]
      simp only [ai, Result.andThen_ok, r_typeInfo hinf, hwr, Sem.run_ite, Sem.run_bind, run_askRoom, r_sizeOf hie, hse]
      rw [if_neg hcond]
      by_cases hn0 : l.toNat * es = 0
      · simp only [if_pos hn0] at hrep
        simp only [if_pos hn0, Sem.run_pure, Result.andThen_ok, run_askRoom, hrep, newRow, run_newObj, Sem.run_bind, Option.map_some, SP.conc, this]
      · simp only [if_neg hn0] at hrep
        simp only [if_neg hn0, Sem.run_pure, Result.andThen_ok, run_askRoom, hz1, hz2, hrep, newRow, run_newObj, Sem.run_bind, Option.map_some, SP.conc, this]
    · exact h.elim
  · exact h.elim

end
end Go.Hv
