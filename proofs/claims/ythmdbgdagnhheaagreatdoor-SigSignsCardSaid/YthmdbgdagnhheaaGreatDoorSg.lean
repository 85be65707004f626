import Derived.Test.YthmdbgdagnhheaaGreatDoorRf1
import Derived.Test.YthmdbgdagnhheaaGreatDoorMc2
import Derived.Test.YthmdbgdagnhheaaGreatDoorCuL
import Derived.Test.YthmdbgdagnhheaaGreatDoorCm1
import Derived.Test.YthmdbgdagnhheaaGreatDoorByB
import Derived.Test.YthmdbgdagnhheaaGreatDoorByR
import Derived.Test.YthmdbgdagnhheaaGreatDoorSc1
import Derived.Test.YthmdbgdagnhheaaGreatDoorGn1
namespace Go.Hv
open Go.Ev

def frc {α:Type} (x:Nat) (k:Nat→α):α:=
 match x with
 | 0=>k 0
 | n+1=>k (n+1)
theorem frc_eq {α:Type} (x:Nat) (k:Nat→α):frc x k=k x:=by cases x<;>rfl

def nad (a b:Nat):Nat:=Nat.mod (Nat.add a b) 4294967296
def nrt (s x:Nat):Nat:=Nat.lor (Nat.mod (Nat.mul x (Nat.pow 2 s)) 4294967296) (Nat.div x (Nat.pow 2 (Nat.sub 32 s)))
def ns0 (x:Nat):Nat:=Nat.xor (Nat.xor (nrt 25 x) (nrt 14 x)) (Nat.div x 8)
def ns1 (x:Nat):Nat:=Nat.xor (Nat.xor (nrt 15 x) (nrt 13 x)) (Nat.div x 1024)
def nX (k w e f g h:Nat):Nat:=nad (nad (nad (nad h (Nat.xor (Nat.xor (nrt 26 e) (nrt 21 e)) (nrt 7 e))) (Nat.xor (Nat.land e f) (Nat.land (Nat.xor 4294967295 e) g))) k) w
def nY (a b c:Nat):Nat:=nad (Nat.xor (Nat.xor (nrt 30 a) (nrt 19 a)) (nrt 10 a)) (Nat.xor (Nat.xor (Nat.land a b) (Nat.land a c)) (Nat.land b c))

structure N8 where
 a:Nat
 b:Nat
 c:Nat
 d:Nat
 e:Nat
 f:Nat
 g:Nat
 h:Nat

def ofN (s:N8):S8:=⟨s.a,s.b,s.c,s.d,s.e,s.f,s.g,s.h⟩
def N8.In (s:N8):Prop:=s.a<4294967296∧s.b<4294967296∧s.c<4294967296∧s.d<4294967296∧s.e<4294967296∧s.f<4294967296∧s.g<4294967296∧s.h<4294967296

theorem nad_lt (a b:Nat):nad a b<4294967296:=Nat.mod_lt _ (by decide)
theorem cast_add (a b:Nat):wadd (a:Int) (b:Int)=(nad a b:Nat):=by
 unfold wadd
 show _=(((a+b)%4294967296:Nat):Int)
 omega

theorem wrap_n {n:Nat} (h:n<4294967296):IntKind.u32.wrap (n:Int)=n:=by
 simp only [IntKind.wrap,IntKind.signed,IntKind.bits]
 simp
 omega

theorem cast_xor {a b:Nat} (ha:a<4294967296) (hb:b<4294967296):bxor (a:Int) (b:Int)=(Nat.xor a b:Nat):=by
 unfold bxor
 change IntKind.u32.wrap (BitVec.ofInt 32 _ ^^^ BitVec.ofInt 32 _).toNat=_
 rw [BitVec.ofInt_natCast,BitVec.ofInt_natCast]
 simp only [BitVec.toNat_xor,BitVec.toNat_ofNat]
 rw [Nat.mod_eq_of_lt ha,Nat.mod_eq_of_lt hb]
 exact wrap_n (Nat.xor_lt_two_pow (n:=32) ha hb)
theorem cast_and {a b:Nat} (ha:a<4294967296) (hb:b<4294967296):band (a:Int) (b:Int)=(Nat.land a b:Nat):=by
 unfold band
 change IntKind.u32.wrap (BitVec.ofInt 32 _ &&& BitVec.ofInt 32 _).toNat=_
 rw [BitVec.ofInt_natCast,BitVec.ofInt_natCast]
 simp only [BitVec.toNat_and,BitVec.toNat_ofNat]
 rw [Nat.mod_eq_of_lt ha,Nat.mod_eq_of_lt hb]
 exact wrap_n (Nat.and_lt_two_pow (n:=32) a hb)
theorem cast_or {a b:Nat} (ha:a<4294967296) (hb:b<4294967296):bor (a:Int) (b:Int)=(Nat.lor a b:Nat):=by
 unfold bor
 change IntKind.u32.wrap (BitVec.ofInt 32 _ ||| BitVec.ofInt 32 _).toNat=_
 rw [BitVec.ofInt_natCast,BitVec.ofInt_natCast]
 simp only [BitVec.toNat_or,BitVec.toNat_ofNat]
 rw [Nat.mod_eq_of_lt ha,Nat.mod_eq_of_lt hb]
 exact wrap_n (Nat.or_lt_two_pow (n:=32) ha hb)

theorem xor_lt {a b:Nat} (ha:a<4294967296) (hb:b<4294967296):Nat.xor a b<4294967296:=Nat.xor_lt_two_pow (n:=32) ha hb
theorem and_lt (a:Nat) {b:Nat} (hb:b<4294967296):Nat.land a b<4294967296:=Nat.and_lt_two_pow (n:=32) a hb

theorem cast_div (x k:Nat):((x:Int)).fdiv (2^k)=(Nat.div x (Nat.pow 2 k):Nat):=by
 rw [Int.fdiv_eq_ediv_of_nonneg _ (Int.le_of_lt (Int.pow_pos (by decide)))]
 show _=((x/2^k:Nat):Int)
 rw [Int.natCast_ediv,Int.natCast_pow]
 rfl

theorem div_lt {x:Nat} (h:x<4294967296) (k:Nat):Nat.div x (Nat.pow 2 k)<4294967296:=Nat.lt_of_le_of_lt (Nat.div_le_self _ _) h
theorem nrt_lt {s x:Nat} (h:x<4294967296):nrt s x<4294967296:=Nat.or_lt_two_pow (n:=32) (Nat.mod_lt _ (by decide)) (div_lt h _)

theorem cast_rot {x:Nat} (s:Nat) (h:x<4294967296):rotw s (x:Int)=(nrt s x:Nat):=by
 unfold rotw nrt
 have e:((x:Int)*2^s%4294967296)=((Nat.mod (Nat.mul x (Nat.pow 2 s)) 4294967296:Nat):Int):=by
  show _=((x*2^s%4294967296:Nat):Int)
  rw [Int.natCast_emod,Int.natCast_mul,Int.natCast_pow]
  rfl
 rw [e,cast_div]
 exact cast_or (Nat.mod_lt _ (by decide)) (div_lt h _)

theorem cast_s0 {x:Nat} (h:x<4294967296):sg0 (x:Int)=(ns0 x:Nat):=by
 unfold sg0 ns0
 rw [cast_rot _ h,cast_rot _ h,cast_xor (nrt_lt h) (nrt_lt h),cast_div,cast_xor (xor_lt (nrt_lt h) (nrt_lt h)) (div_lt h _)]
theorem cast_s1 {x:Nat} (h:x<4294967296):sg1 (x:Int)=(ns1 x:Nat):=by
 unfold sg1 ns1
 rw [cast_rot _ h,cast_rot _ h,cast_xor (nrt_lt h) (nrt_lt h),cast_div,cast_xor (xor_lt (nrt_lt h) (nrt_lt h)) (div_lt h _)]

theorem cast_X {k w:Nat} {s:N8} (hs:s.In):stX (k:Int) (w:Int) (ofN s)=(nX k w s.e s.f s.g s.h:Nat):=by
 obtain ⟨_,_,_,_,h5,h6,h7,h8⟩:=hs
 unfold stX nX ofN
 simp only
 have hm:(4294967295:Int)=((4294967295:Nat):Int):=rfl
 rw [cast_rot _ h5,cast_rot _ h5,cast_rot _ h5,cast_xor (nrt_lt h5) (nrt_lt h5),cast_xor (xor_lt (nrt_lt h5) (nrt_lt h5)) (nrt_lt h5),cast_and h5 h6,hm,cast_xor (by decide) h5,cast_and (xor_lt (by decide) h5) h7,
  cast_xor (and_lt _ h6) (and_lt _ h7),cast_add,cast_add,cast_add,cast_add]
theorem cast_Y {s:N8} (hs:s.In):stY (ofN s)=(nY s.a s.b s.c:Nat):=by
 obtain ⟨h1,h2,h3,_⟩:=hs
 unfold stY nY ofN
 simp only
 rw [cast_rot _ h1,cast_rot _ h1,cast_rot _ h1,cast_xor (nrt_lt h1) (nrt_lt h1),cast_xor (xor_lt (nrt_lt h1) (nrt_lt h1)) (nrt_lt h1),cast_and h1 h2,cast_and h1 h3,cast_and h2 h3,cast_xor (and_lt _ h2) (and_lt _ h3),cast_xor (xor_lt (and_lt _ h2) (and_lt _ h3)) (and_lt _ h3),cast_add]

def nK:List Nat:=[1116352408,1899447441,3049323471,3921009573,961987163,1508970993,2453635748,2870763221,3624381080,310598401,607225278,1426881987,1925078388,2162078206,2614888103,3248222580,3835390401,4022224774,264347078,604807628,770255983,1249150122,1555081692,1996064986,2554220882,2821834349,2952996808,3210313671,3336571891,3584528711,113926993,338241895,666307205,773529912,1294757372,1396182291,1695183700,1986661051,2177026350,2456956037,2730485921,2820302411,3259730800,3345764771,3516065817,3600352804,4094571909,275423344,430227734,506948616,659060556,883997877,958139571,1322822218,1537002063,1747873779,1955562222,2024104815,2227730452,2361852424,2428436474,2756734187,3204031479,3329325298]
theorem nK_tab:tabK=nK.map fun n:Nat=>(n:Int):=by kernel_rfl

def nro:List Nat→List Nat→Nat→Nat→Nat→Nat→Nat→Nat→Nat→Nat→N8
 | k::ks,w::ws,a,b,c,d,e,f,g,h=>frc (nX k w e f g h) fun x=>frc (nad x (nY a b c)) fun a'=>frc (nad d x) fun e'=>nro ks ws a' a b c e' e f g
 | [],_,a,b,c,d,e,f,g,h=>⟨a,b,c,d,e,f,g,h⟩
 | _::_,[],a,b,c,d,e,f,g,h=>⟨a,b,c,d,e,f,g,h⟩

def nsc:Nat→List Nat→List Nat
 | 0,_=>[]
 | n+1,[w0,w1,w2,w3,w4,w5,w6,w7,w8,w9,w10,w11,w12,w13,w14,w15]=>w0::frc (nad (nad (nad w0 (ns0 w1)) w9) (ns1 w14)) fun x=>nsc n [w1,w2,w3,w4,w5,w6,w7,w8,w9,w10,w11,w12,w13,w14,w15,x]
 | _+1,_=>[]

theorem Wd_next (L:Nat→Int) (t:Nat):Wd L (t+16)=wadd (wadd (wadd (Wd L t) (sg0 (Wd L (t+1)))) (Wd L (t+9))) (sg1 (Wd L (t+14))):=by
 conv=>lhs; unfold Wd
 rw [if_neg (by omega)]
 rfl
theorem Wd_first (L:Nat→Int) {t:Nat} (h:t<16):Wd L t=word4 (L (4*t)) (L (4*t+1)) (L (4*t+2)) (L (4*t+3)):=by
 unfold Wd
 rw [if_pos h]

def N32 (x:Nat):Prop:=x<4294967296

theorem nsc_eq (n:Nat) (w:List Nat) (hl:w.length=16):nsc (n+1) w=w.getD 0 0::nsc n (w.tail++[nad (nad (nad (w.getD 0 0) (ns0 (w.getD 1 0))) (w.getD 9 0)) (ns1 (w.getD 14 0))]):=by
 match w,hl with
 | [w0,w1,w2,w3,w4,w5,w6,w7,w8,w9,w10,w11,w12,w13,w14,w15],_=>
  show w0::frc _ _=_
  rw [frc_eq]
  rfl

theorem win_get {w:List Nat} (x:Nat) (hl:w.length=16) (i:Nat) (hi:i<16):(w.tail++[x]).getD i 0=if i=15 then x else w.getD (i+1) 0:=by
 have ht:w.tail.length=15:=by rw [List.length_tail,hl]
 split
 ·rename_i h
  subst h
  rw [List.getD_eq_getElem?_getD,List.getElem?_append_right (by omega),ht]
  rfl
 ·rw [List.getD_eq_getElem?_getD,List.getElem?_append_left (by omega),List.getElem?_tail,← List.getD_eq_getElem?_getD]

theorem nsc_ok (L:Nat→Int):∀ (n t:Nat) (w:List Nat),w.length=16→(∀ i,i<16→Wd L (t+i)=((w.getD i 0:Nat):Int)∧N32 (w.getD i 0)) →
  (nsc n w).length=n∧∀ i,i<n→Wd L (t+i)=(((nsc n w).getD i 0:Nat):Int)∧N32 ((nsc n w).getD i 0)
 | 0,t,w,_,_=>⟨rfl,fun i hi=>absurd hi (Nat.not_lt_zero i)⟩
 | n+1,t,w,hl,hw=>by
  have h0:=hw 0 (by omega)
  have h1:=hw 1 (by omega)
  have h9:=hw 9 (by omega)
  have h14:=hw 14 (by omega)
  rw [Nat.add_zero] at h0
  have hx:Wd L (t+16)=((nad (nad (nad (w.getD 0 0) (ns0 (w.getD 1 0))) (w.getD 9 0)) (ns1 (w.getD 14 0)):Nat):Int):=by
   rw [Wd_next,h0.1,h1.1,h9.1,h14.1,cast_s0 h1.2,cast_s1 h14.2,cast_add,cast_add,cast_add]
  have hlt:N32 (nad (nad (nad (w.getD 0 0) (ns0 (w.getD 1 0))) (w.getD 9 0)) (ns1 (w.getD 14 0))):=nad_lt _ _
  rw [nsc_eq n w hl]
  generalize nad (nad (nad (w.getD 0 0) (ns0 (w.getD 1 0))) (w.getD 9 0)) (ns1 (w.getD 14 0))=x at *
  obtain ⟨g1,g2⟩:=nsc_ok L n (t+1) (w.tail++[x]) (by rw [List.length_append,List.length_tail,hl]; rfl) (fun i hi=>by
   rw [win_get x hl i hi]
   split
   ·rename_i h
    subst h
    rw [show t+1+15=t+16 by omega]
    exact ⟨hx,hlt⟩
   ·rw [show t+1+i=t+(i+1) by omega]
    exact hw (i+1) (by omega))
  refine ⟨by rw [List.length_cons,g1],fun i hi=>?_⟩
  match i,hi with
  | 0,_=>rw [Nat.add_zero]; exact h0
  | i+1,hi=>
   have:=g2 i (by omega)
   rw [show t+(i+1)=t+1+i by omega]
   exact this

theorem nro_ok (L:Nat→Int) (s0:S8):∀ (ks ws:List Nat) (t:Nat) (s:N8),ks.length=ws.length→s.In→rounds L s0 t=ofN s→(∀ i,i<ks.length→tabK.getD (t+i) 0=((ks.getD i 0:Nat):Int))→(∀ i,i<ws.length→Wd L (t+i)=((ws.getD i 0:Nat):Int)) →
  rounds L s0 (t+ks.length)=ofN (nro ks ws s.a s.b s.c s.d s.e s.f s.g s.h)∧(nro ks ws s.a s.b s.c s.d s.e s.f s.g s.h).In
 | [],ws,t,s,hl,hs,hr,hk,hw=>by
  have e:nro [] ws s.a s.b s.c s.d s.e s.f s.g s.h=s:=by cases ws<;>rfl
  rw [e]
  exact ⟨hr,hs⟩
 | k::ks,[],t,s,hl,hs,hr,hk,hw=>by cases hl
 | k::ks,w::ws,t,s,hl,hs,hr,hk,hw=>by
  have hk0:tabK.getD t 0=(k:Int):=hk 0 (by simp)
  have hw0:Wd L t=(w:Int):=hw 0 (by simp)
  have hnext:rounds L s0 (t+1)=ofN ⟨nad (nX k w s.e s.f s.g s.h) (nY s.a s.b s.c),s.a,s.b,s.c,nad s.d (nX k w s.e s.f s.g s.h),s.e,s.f,s.g⟩:=by
   show step (tabK.getD t 0) (Wd L t) (rounds L s0 t)=_
   rw [hk0,hw0,hr]
   unfold step
   rw [cast_X hs,cast_Y hs,cast_add]
   show S8.mk _ _ _ _ (wadd ((s.d:Nat):Int) _) _ _ _=_
   rw [cast_add]
   rfl
  have hin:N8.In ⟨nad (nX k w s.e s.f s.g s.h) (nY s.a s.b s.c),s.a,s.b,s.c,nad s.d (nX k w s.e s.f s.g s.h),s.e,s.f,s.g⟩:=⟨nad_lt _ _,hs.1,hs.2.1,hs.2.2.1,nad_lt _ _,hs.2.2.2.2.1,hs.2.2.2.2.2.1,hs.2.2.2.2.2.2.1⟩
  have ih:=nro_ok L s0 ks ws (t+1) _ (by simpa using hl) hin hnext (fun i hi=>by have:=hk (i+1) (by simp; omega); rw [show t+1+i=t+(i+1) by omega]; exact this) (fun i hi=>by have:=hw (i+1) (by simp; omega); rw [show t+1+i=t+(i+1) by omega]; exact this)
  have e:nro (k::ks) (w::ws) s.a s.b s.c s.d s.e s.f s.g s.h=nro ks ws (nad (nX k w s.e s.f s.g s.h) (nY s.a s.b s.c)) s.a s.b s.c (nad s.d (nX k w s.e s.f s.g s.h)) s.e s.f s.g:=by
   show frc _ _=_
   rw [frc_eq,frc_eq,frc_eq]
  rw [e,List.length_cons,show t+(ks.length+1)=t+1+ks.length by omega]
  exact ih

def nmx (w:List Nat) (s:N8):N8:=
 match nro nK (nsc 64 w) s.a s.b s.c s.d s.e s.f s.g s.h with
 | ⟨a,b,c,d,e,f,g,h⟩=>frc (nad s.a a) fun a=>frc (nad s.b b) fun b=>frc (nad s.c c) fun c=>frc (nad s.d d) fun d=>frc (nad s.e e) fun e=>frc (nad s.f f) fun f=>frc (nad s.g g) fun g=>frc (nad s.h h) fun h=>⟨a,b,c,d,e,f,g,h⟩

theorem nmx_ok (L:Nat→Int) {s:N8} {w:List Nat} (hs:s.In) (hl:w.length=16) (hw:∀ i,i<16→Wd L i=((w.getD i 0:Nat):Int)∧N32 (w.getD i 0)):mix L (ofN s)=ofN (nmx w s)∧(nmx w s).In:=by
 obtain ⟨g1,g2⟩:=nsc_ok L 64 0 w hl (fun i hi=>by rw [Nat.zero_add]; exact hw i hi)
 obtain ⟨h1,h2⟩:=nro_ok L (ofN s) nK (nsc 64 w) 0 s (by rw [g1]; rfl) hs rfl (fun i hi=>by
  rw [Nat.zero_add,nK_tab,List.getD_eq_getElem?_getD,List.getElem?_map,List.getD_eq_getElem?_getD,List.getElem?_eq_getElem hi]
  rfl) (fun i hi=>(g2 i (by rw [g1] at hi; exact hi)).1)
 have h1:rounds L (ofN s) 64=_:=h1
 unfold mix nmx
 rw [h1]
 generalize nro nK (nsc 64 w) s.a s.b s.c s.d s.e s.f s.g s.h=r at *
 obtain ⟨a,b,c,d,e,f,g,h⟩:=r
 simp only [frc_eq]
 refine ⟨?_,nad_lt _ _,nad_lt _ _,nad_lt _ _,nad_lt _ _,nad_lt _ _,nad_lt _ _,nad_lt _ _,nad_lt _ _⟩
 unfold add8 ofN
 simp only [cast_add]

def n16:Nat→List Nat→List Nat
 | n+1,a::b::c::d::r=>frc (((a*256+b)*256+c)*256+d) fun x=>x::n16 n r
 | _,_=>[]

abbrev zi (B:List Nat):List Int:=B.map fun n:Nat=>(n:Int)

theorem word4_n {a b c d:Nat} (ha:a<256) (hb:b<256) (hc:c<256) (hd:d<256):word4 (a:Int) (b:Int) (c:Int) (d:Int)=((((a*256+b)*256+c)*256+d:Nat):Int):=by
 rw [← word4_add (by omega) (by omega) (by omega) (by omega)]
 unfold wadd
 omega

theorem n16_ok:∀ (n:Nat) (B:List Nat),4*n≤B.length→(∀ z∈B,z<256)→(n16 n B).length=n∧∀ i,i<n→word4 ((zi B).getD (4*i) 0) ((zi B).getD (4*i+1) 0) ((zi B).getD (4*i+2) 0) ((zi B).getD (4*i+3) 0)=(((n16 n B).getD i 0:Nat):Int)∧N32 ((n16 n B).getD i 0)
 | 0,B,_,_=>⟨by cases B<;>rfl,fun i hi=>absurd hi (Nat.not_lt_zero i)⟩
 | n+1,B,hl,hB=>by
  match B,hl with
  | a::b::c::d::r,hl=>
   have ha:=hB a (by simp)
   have hb:=hB b (by simp)
   have hc:=hB c (by simp)
   have hd:=hB d (by simp)
   obtain ⟨g1,g2⟩:=n16_ok n r (by simp at hl; omega) (fun z hz=>hB z (by simp [hz]))
   have e:n16 (n+1) (a::b::c::d::r)=(((a*256+b)*256+c)*256+d)::n16 n r:=by
    show frc _ _=_
    rw [frc_eq]
   rw [e]
   refine ⟨by rw [List.length_cons,g1],fun i hi=>?_⟩
   match i,hi with
   | 0,_=>exact ⟨word4_n ha hb hc hd,by show ((a*256+b)*256+c)*256+d<4294967296; omega⟩
   | i+1,hi=>
    have:=g2 i (by omega)
    rw [show 4*(i+1)=4*i+4 by omega]
    exact this
  | [],hl | [_],hl | [_,_],hl | [_,_,_],hl=>exfalso; simp only [List.length_cons,List.length_nil] at hl; omega

def nrn:Nat→List Nat→N8→N8
 | 0,_,s=>s
 | j+1,B,s=>nrn j (B.drop 64) (nmx (n16 16 B) s)

theorem nrn_ok:∀ (j:Nat) (B:List Nat) (s:N8),64*j≤B.length→(∀ z∈B,z<256)→s.In→runP (zi B) (ofN s) j=ofN (nrn j B s)
 | 0,_,_,_,_,_=>rfl
 | j+1,B,s,hl,hB,hs=>by
  obtain ⟨g1,g2⟩:=n16_ok 16 B (by omega) hB
  have h1:=nmx_ok (fun i=>(((zi B).drop (64*0)).take 64).getD i 0) hs g1 (fun i hi=>by
   refine ⟨?_,(g2 i hi).2⟩
   rw [Wd_first _ hi,← (g2 i hi).1]
   have ge:∀ k,k<64→(((zi B).drop (64*0)).take 64).getD k 0=(zi B).getD k 0:=fun k hk=>by
    rw [Nat.mul_zero,List.drop_zero,List.getD_eq_getElem?_getD,List.getElem?_take_of_lt hk,← List.getD_eq_getElem?_getD]
   rw [ge _ (by omega),ge _ (by omega),ge _ (by omega),ge _ (by omega)])
  have h2:=runP_add (zi B) (ofN s) 1 j
  have h3:runP (zi B) (ofN s) 1=ofN (nmx (n16 16 B) s):=h1.1
  rw [Nat.add_comm 1 j,h3,Nat.mul_one,← List.map_drop] at h2
  rw [h2]
  exact nrn_ok j (B.drop 64) (nmx (n16 16 B) s) (by rw [List.length_drop]; omega) (fun z hz=>hB z (List.mem_of_mem_drop hz)) h1.2

def begN:N8:=⟨1779033703,3144134277,1013904242,2773480762,1359893119,2600822924,528734635,1541459225⟩

theorem sha_by {X:List Int} (P D:List Nat) (S:N8) (j:Nat) (hp:padL X=zi P) (hl:P.length=64*j) (hP:(P.all fun z=>Nat.blt z 256)=true) (hr:nrn j P begN=S) (hd:dgl (ofN S)=zi D):shaD X=zi D:=by
 have hP:∀ z∈P,z<256:=fun z hz=>by
  have:=List.all_eq_true.1 hP z hz
  simpa [Nat.blt_eq] using this
 have h:=nrn_ok j P begN (by omega) hP (by unfold N8.In begN; decide)
 rw [← pad_sha,hp,show begun8=ofN begN from rfl,List.length_map,hl,Nat.mul_div_cancel_left _ (by decide),h,hr]
 exact hd

end Go.Hv

namespace Go.Hv
open Go.Ev Go.Ec

theorem sv_aux0:shaD (zi [66,73,80,48,51,52,48,47,97,117,120])=zi [241,239,78,94,192,99,202,218,109,148,202,250,157,152,126,160,105,38,88,57,236,193,31,151,45,119,165,46,216,193,204,144]:=
 sha_by [66,73,80,48,51,52,48,47,97,117,120,128,0,0,0,0,0,0,0,0,0,0,0,0,0,0,0,0,0,0,0,0,0,0,0,0,0,0,0,0,0,0,0,0,0,0,0,0,0,0,0,0,0,0,0,0,0,0,0,0,0,0,0,88] [241,239,78,94,192,99,202,218,109,148,202,250,157,152,126,160,105,38,88,57,236,193,31,151,45,119,165,46,216,193,204,144] ⟨4058992222,3227765466,1838467834,2644016800,1764120633,3972079511,762815790,3636579472⟩ 1 (by kernel_rfl) rfl (by kernel_rfl) (by kernel_rfl) (by kernel_rfl)

theorem sv_non0:shaD (zi [66,73,80,48,51,52,48,47,110,111,110,99,101])=zi [7,73,119,52,167,155,203,53,91,155,140,125,3,79,18,28,244,52,215,62,247,45,218,25,135,0,97,251,82,191,235,47]:=
 sha_by [66,73,80,48,51,52,48,47,110,111,110,99,101,128,0,0,0,0,0,0,0,0,0,0,0,0,0,0,0,0,0,0,0,0,0,0,0,0,0,0,0,0,0,0,0,0,0,0,0,0,0,0,0,0,0,0,0,0,0,0,0,0,0,104] [7,73,119,52,167,155,203,53,91,155,140,125,3,79,18,28,244,52,215,62,247,45,218,25,135,0,97,251,82,191,235,47] ⟨122255156,2812005173,1536920701,55513628,4097103678,4146977305,2264949243,1388309295⟩ 1 (by kernel_rfl) rfl (by kernel_rfl) (by kernel_rfl) (by kernel_rfl)

theorem sv_cha0:shaD (zi [66,73,80,48,51,52,48,47,99,104,97,108,108,101,110,103,101])=zi [123,181,45,122,159,239,88,50,62,177,191,122,64,125,179,130,210,243,242,216,27,177,34,79,73,254,81,143,109,72,211,124]:=
 sha_by [66,73,80,48,51,52,48,47,99,104,97,108,108,101,110,103,101,128,0,0,0,0,0,0,0,0,0,0,0,0,0,0,0,0,0,0,0,0,0,0,0,0,0,0,0,0,0,0,0,0,0,0,0,0,0,0,0,0,0,0,0,0,0,136] [123,181,45,122,159,239,88,50,62,177,191,122,64,125,179,130,210,243,242,216,27,177,34,79,73,254,81,143,109,72,211,124] ⟨2075471226,2683263026,1051836282,1081979778,3539202776,464593487,1241403791,1833489276⟩ 1 (by kernel_rfl) rfl (by kernel_rfl) (by kernel_rfl) (by kernel_rfl)

theorem sv_aux:shaD (zi [241,239,78,94,192,99,202,218,109,148,202,250,157,152,126,160,105,38,88,57,236,193,31,151,45,119,165,46,216,193,204,144,241,239,78,94,192,99,202,218,109,148,202,250,157,152,126,160,105,38,88,57,236,193,31,151,45,119,165,46,216,193,204,144,0,0,0,0,0,0,0,0,0,0,0,0,0,0,0,0,0,0,0,0,0,0,0,0,0,0,0,0,0,0,0,0])=zi [84,241,105,207,201,226,229,114,116,128,68,31,144,186,37,196,136,244,97,199,11,94,165,220,170,247,175,105,39,10,165,20]:=
 sha_by [241,239,78,94,192,99,202,218,109,148,202,250,157,152,126,160,105,38,88,57,236,193,31,151,45,119,165,46,216,193,204,144,241,239,78,94,192,99,202,218,109,148,202,250,157,152,126,160,105,38,88,57,236,193,31,151,45,119,165,46,216,193,204,144,0,0,0,0,0,0,0,0,0,0,0,0,0,0,0,0,0,0,0,0,0,0,0,0,0,0,0,0,0,0,0,0,128,0,0,0,0,0,0,0,0,0,0,0,0,0,0,0,0,0,0,0,0,0,0,0,0,0,0,0,0,0,3,0] [84,241,105,207,201,226,229,114,116,128,68,31,144,186,37,196,136,244,97,199,11,94,165,220,170,247,175,105,39,10,165,20] ⟨1425107407,3387090290,1954563103,2428118468,2297717191,190752220,2868359017,655009044⟩ 2 (by kernel_rfl) rfl (by kernel_rfl) (by kernel_rfl) (by kernel_rfl)

theorem sv_non:shaD (zi [7,73,119,52,167,155,203,53,91,155,140,125,3,79,18,28,244,52,215,62,247,45,218,25,135,0,97,251,82,191,235,47,7,73,119,52,167,155,203,53,91,155,140,125,3,79,18,28,244,52,215,62,247,45,218,25,135,0,97,251,82,191,235,47,84,241,105,207,201,226,229,114,116,128,68,31,144,186,37,196,136,244,97,199,11,94,165,220,170,247,175,105,39,10,165,23,249,48,138,1,146,88,195,16,73,52,79,133,248,157,82,41,181,49,200,69,131,111,153,176,134,1,241,19,188,224,54,249,0,0,0,0,0,0,0,0,0,0,0,0,0,0,0,0,0,0,0,0,0,0,0,0,0,0,0,0,0,0,0,0])=zi [29,45,193,101,47,238,58,208,132,52,70,159,154,211,5,54,165,120,127,236,207,163,8,232,251,57,108,128,48,221,28,105]:=
 sha_by [7,73,119,52,167,155,203,53,91,155,140,125,3,79,18,28,244,52,215,62,247,45,218,25,135,0,97,251,82,191,235,47,7,73,119,52,167,155,203,53,91,155,140,125,3,79,18,28,244,52,215,62,247,45,218,25,135,0,97,251,82,191,235,47,84,241,105,207,201,226,229,114,116,128,68,31,144,186,37,196,136,244,97,199,11,94,165,220,170,247,175,105,39,10,165,23,249,48,138,1,146,88,195,16,73,52,79,133,248,157,82,41,181,49,200,69,131,111,153,176,134,1,241,19,188,224,54,249,0,0,0,0,0,0,0,0,0,0,0,0,0,0,0,0,0,0,0,0,0,0,0,0,0,0,0,0,0,0,0,0,128,0,0,0,0,0,0,0,0,0,0,0,0,0,0,0,0,0,0,0,0,0,0,0,0,0,0,0,0,0,5,0] [29,45,193,101,47,238,58,208,132,52,70,159,154,211,5,54,165,120,127,236,207,163,8,232,251,57,108,128,48,221,28,105] ⟨489537893,804141776,2218018463,2597520694,2776137708,3483568360,4214844544,819797097⟩ 3 (by kernel_rfl) rfl (by kernel_rfl) (by kernel_rfl) (by kernel_rfl)

theorem sv_cha:shaD (zi [123,181,45,122,159,239,88,50,62,177,191,122,64,125,179,130,210,243,242,216,27,177,34,79,73,254,81,143,109,72,211,124,123,181,45,122,159,239,88,50,62,177,191,122,64,125,179,130,210,243,242,216,27,177,34,79,73,254,81,143,109,72,211,124,233,7,131,31,128,132,141,16,105,165,55,27,64,36,16,54,75,223,28,95,131,7,176,8,76,85,241,206,45,202,130,21,249,48,138,1,146,88,195,16,73,52,79,133,248,157,82,41,181,49,200,69,131,111,153,176,134,1,241,19,188,224,54,249,0,0,0,0,0,0,0,0,0,0,0,0,0,0,0,0,0,0,0,0,0,0,0,0,0,0,0,0,0,0,0,0])=zi [107,182,185,58,145,242,236,192,205,146,79,79,155,170,187,94,110,178,23,69,187,0,242,206,189,170,201,8,187,93,134,206]:=
 sha_by [123,181,45,122,159,239,88,50,62,177,191,122,64,125,179,130,210,243,242,216,27,177,34,79,73,254,81,143,109,72,211,124,123,181,45,122,159,239,88,50,62,177,191,122,64,125,179,130,210,243,242,216,27,177,34,79,73,254,81,143,109,72,211,124,233,7,131,31,128,132,141,16,105,165,55,27,64,36,16,54,75,223,28,95,131,7,176,8,76,85,241,206,45,202,130,21,249,48,138,1,146,88,195,16,73,52,79,133,248,157,82,41,181,49,200,69,131,111,153,176,134,1,241,19,188,224,54,249,0,0,0,0,0,0,0,0,0,0,0,0,0,0,0,0,0,0,0,0,0,0,0,0,0,0,0,0,0,0,0,0,128,0,0,0,0,0,0,0,0,0,0,0,0,0,0,0,0,0,0,0,0,0,0,0,0,0,0,0,0,0,5,0] [107,182,185,58,145,242,236,192,205,146,79,79,155,170,187,94,110,178,23,69,187,0,242,206,189,170,201,8,187,93,134,206] ⟨1807137082,2448616640,3448917839,2611657566,1857165125,3137401550,3182086408,3143468750⟩ 3 (by kernel_rfl) rfl (by kernel_rfl) (by kernel_rfl) (by kernel_rfl)

theorem smul_by {k:Nat} (x y n:Nat) (e:k=n) (hk:n<2^256) (h:(Nat.beq (x*(lad 256 n).2.2%PPn) ((lad 256 n).1%PPn)&&(Nat.beq (y*(lad 256 n).2.2%PPn) ((lad 256 n).2.1%PPn)&&!(Nat.beq ((lad 256 n).2.2%PPn) 0)))=true):smul k gP=some (kn x,kn y):=by
 subst e
 have F:=fld
 simp only [Bool.and_eq_true,Bool.not_eq_true'] at h
 obtain ⟨h1,h2,h3⟩:=h
 have h1:=Nat.eq_of_beq_eq_true h1
 have h2:=Nat.eq_of_beq_eq_true h2
 have h3:(lad 256 k).2.2%PPn≠0:=fun e=>by rw [e] at h3; cases h3
 obtain ⟨c,hc,et⟩:=rep_lad 256 k hk
 generalize lad 256 k=T at *
 generalize smul k gP=Q at *
 have e1:kn x*kn T.2.2=kn T.1:=by rw [← kn_mul,← kn_mod,h1,kn_mod]
 have e2:kn y*kn T.2.2=kn T.2.1:=by rw [← kn_mul,← kn_mod,h2,kn_mod]
 have e3:kn T.2.2≠0:=fun e=>by
  unfold kn at e
  rw [← toK_zero,toK_eq] at e
  have:((T.2.2%PPn:Nat):Int)=0:=by rw [Int.natCast_emod,e]; rfl
  exact h3 (by exact_mod_cast this)
 match Q,et with
 | none,et=>
  have:(0:Fin PPn)=c*kn T.2.2:=congrArg (fun t=>t.2.2) et
  exact absurd this.symm (F.mul hc e3)
 | some (a,b),et=>
  have a1:a=c*kn T.1:=congrArg (fun t=>t.1) et
  have a2:b=c*kn T.2.1:=congrArg (fun t=>t.2.1) et
  have a3:(1:Fin PPn)=c*kn T.2.2:=congrArg (fun t=>t.2.2) et
  have r1:a=kn x:=by rw [a1,← e1]; grind
  have r2:b=kn y:=by rw [a2,← e2]; grind
  rw [r1,r2]

theorem sv_P {k:Nat} (h:k=3):smul k gP=some (kn 112711660439710606056748659173929673102114977341539408544630613555209775888121,kn 25583027980570883691656905877401976406448868254816295069919888960541586679410):=smul_by _ _ 3 h (by decide) (by kernel_rfl)
theorem sv_R {k:Nat} (h:k=13197915491876976259551408334663313131887465579707439106007590226688883891305):smul k gP=some (kn 105402166627418795092072804961744245450567089294823101265006251985280030114325,kn 59979214474319322165094783228164233363219353906398054566988269642334758084391):=smul_by _ _ 13197915491876976259551408334663313131887465579707439106007590226688883891305 h (by decide) (by kernel_rfl)
end Go.Hv

namespace Go.Hv
open Go.Ev Go.Ec

def sI:Sc→Int
 | .int _ z=>z
 | _=>0
def byt (x:Int):List Int:=(bcs4 x).map sI
theorem u8_byt (x:Int):u8s (byt x)=bcs4 x:=rfl
theorem byt_len (x:Int):(byt x).length=32:=rfl
theorem wrap8_lt (z:Int):0≤IntKind.u8.wrap z∧IntKind.u8.wrap z<256:=by
 simp only [IntKind.wrap,IntKind.signed,IntKind.bits]
 simp
 omega
theorem byt_u8 (x:Int):∀ z∈byt x,0≤z∧z<256:=fun z hz=>by
 obtain ⟨s,hs,rfl⟩:=List.mem_map.1 hz
 have:∃ l k,s=bq l k:=by
  unfold bcs4 at hs
  simp only [List.mem_cons,List.not_mem_nil,or_false] at hs
  rcases hs with h | h | h | h | h | h | h | h | h | h | h | h | h | h | h | h | h | h | h | h | h | h | h | h | h | h | h | h | h | h | h | h<;>exact ⟨_,_,h⟩
 obtain ⟨l,k,rfl⟩:=this
 exact wrap8_lt _

def numB (D:List Int):Int:=D.foldl (fun a z=>a*256+z) 0

theorem num_app (A B:List Int):numB (A++B)=numB A*256^B.length+numB B:=by
 unfold numB
 rw [List.foldl_append]
 generalize A.foldl (fun a z=>a*256+z) 0=s
 have:∀ (B:List Int) (s t:Int),B.foldl (fun a z=>a*256+z) (s+t)=s*256^B.length+B.foldl (fun a z=>a*256+z) t:=fun B=>by
  induction B with
  | nil=>intro s t; simp
  | cons b B ih=>
   intro s t
   rw [List.foldl_cons,List.foldl_cons,show (s+t)*256+b=s*256+(t*256+b) by omega,ih,List.length_cons,Int.pow_succ,Int.mul_assoc,Int.mul_comm 256]
 have h:=this B s 0
 rwa [Int.add_zero] at h

def limbB (l:Int):List Int:=[l/72057594037927936%256,l/281474976710656%256,l/1099511627776%256,l/4294967296%256,l/16777216%256,l/65536%256,l/256%256,l/1%256]
theorem limb_num {l:Int} (h:InU l):numB (limbB l)=l:=by
 obtain ⟨h1,h2⟩:=h
 show ((((((((0*256+l/72057594037927936%256)*256+l/281474976710656%256)*256+l/1099511627776%256)*256+l/4294967296%256)*256+l/16777216%256)*256+l/65536%256)*256+l/256%256)*256+l/1%256)=l
 omega

theorem bcsL_limbs (l0 l1 l2 l3:Int):(bcsL l0 l1 l2 l3).map sI=limbB l3++(limbB l2++(limbB l1++limbB l0)):=by
 have b:∀ (l:Int) (k:Nat) (P:Int),(2:Int)^k=P→0<P→sI (bq l k)=l/P%256:=fun l k P hP h1=>by rw [bq_eq k P hP h1 rfl]; rfl
 unfold bcsL limbB
 simp only [List.map_cons,List.map_nil,List.cons_append,List.nil_append]
 simp only [b _ 56 72057594037927936 rfl (by omega),b _ 48 281474976710656 rfl (by omega),b _ 40 1099511627776 rfl (by omega),b _ 32 4294967296 rfl (by omega),b _ 24 16777216 rfl (by omega),b _ 16 65536 rfl (by omega),b _ 8 256 rfl (by omega),b _ 0 1 rfl (by omega)]

theorem num_bcs {D:List Int} {l0 l1 l2 l3:Int} (h0:InU l0) (h1:InU l1) (h2:InU l2) (h3:InU l3) (e:u8s D=bcsL l0 l1 l2 l3):numB D=val l0 l1 l2 l3:=by
 have hD:D=(u8s D).map sI:=by
  rw [List.map_map]
  exact (List.map_id D).symm
 rw [hD,e,bcsL_limbs,num_app,num_app,num_app,limb_num h0,limb_num h1,limb_num h2,limb_num h3]
 show (l3*256^24+(l2*256^16+(l1*256^8+l0)):Int)=_
 unfold val
 omega

theorem num_ex {D:List Int} (hl:D.length=32) (h8:∀ z∈D,0≤z∧z<256):∃ l0 l1 l2 l3,InU l0∧InU l1∧InU l2∧InU l3∧u8s D=bcsL l0 l1 l2 l3∧numB D=val l0 l1 l2 l3:=by
 obtain ⟨l0,l1,l2,l3,h0,h1,h2,h3,e⟩:=bytes_of hl h8
 exact ⟨l0,l1,l2,l3,h0,h1,h2,h3,e,num_bcs h0 h1 h2 h3 e⟩

theorem val_inW {l0 l1 l2 l3:Int} (h0:InU l0) (h1:InU l1) (h2:InU l2) (h3:InU l3):InW (val l0 l1 l2 l3):=by
 unfold InU at *
 unfold val
 exact ⟨by omega,by omega⟩

theorem num_in {D:List Int} (hl:D.length=32) (h8:∀ z∈D,0≤z∧z<256):InW (numB D):=by
 obtain ⟨l0,l1,l2,l3,h0,h1,h2,h3,_,e⟩:=num_ex hl h8
 rw [e]
 exact val_inW h0 h1 h2 h3

theorem num_byt {x:Int} (hx:InW x):numB (byt x)=x:=by
 obtain ⟨l0,l1,l2,l3,h0,h1,h2,h3,rfl⟩:=split4 hx
 exact num_bcs h0 h1 h2 h3 (by rw [u8_byt,bcsL_val h0 h1 h2 h3])

theorem red_fn {D:List Int} (hl:D.length=32) (h8:∀ z∈D,0≤z∧z<256):Ev.Fn PG f_scalar_Reduce [.agg (u8s D)] (W (numB D%nn)):=by
 obtain ⟨l0,l1,l2,l3,h0,h1,h2,h3,e,en⟩:=num_ex hl h8
 rw [e,en]
 exact scReduce_fn h0 h1 h2 h3

theorem feR_fn {D:List Int} (hl:D.length=32) (h8:∀ z∈D,0≤z∧z<256):Ev.Fn PG f_fe_Read [.agg (u8s D)] (.tup [.agg (words (readP (numB D)).1),.one (.bool (readP (numB D)).2)]):=by
 obtain ⟨l0,l1,l2,l3,h0,h1,h2,h3,e,en⟩:=num_ex hl h8
 rw [e,en]
 exact feRead_fn h0 h1 h2 h3

theorem scR_fn {D:List Int} (hl:D.length=32) (h8:∀ z∈D,0≤z∧z<256):Ev.Fn PG f_scalar_Read [.agg (u8s D)] (.tup [.agg (words (readN (numB D)).1),.one (.bool (readN (numB D)).2)]):=by
 obtain ⟨l0,l1,l2,l3,h0,h1,h2,h3,e,en⟩:=num_ex hl h8
 rw [e,en]
 exact scRead_fn h0 h1 h2 h3

theorem liftD_fn {D:List Int} (hl:D.length=32) (h8:∀ z∈D,0≤z∧z<256):Ev.Fn PG f_curve_Lift [.agg (u8s D)] (liftV (numB D)):=by
 obtain ⟨l0,l1,l2,l3,h0,h1,h2,h3,e,en⟩:=num_ex hl h8
 rw [e,en]
 exact cLift_fn h0 h1 h2 h3

def zD32:List Int:=List.replicate 32 0

theorem tkn_pt {a c:KK} (h:On (some (a,c))):tkn (vK a) (vK c) false=some (a,c):=by
 have hr:rightP (vK a) (vK c) false=true:=by
  simp only [rightP,vK_mod,toK_vK,decide_true,Bool.true_and,decide_eq_true_eq]
  exact h
 unfold tkn
 simp only [hr,toK_vK]

noncomputable def prV (s:Int):Option (Int×KK×KK):=
 match smul s.toNat gP with
 | none=>none
 | some (a,c)=>match decide (vK c%2=1) with
  | true=>some (-(s%nn)%nn,a,-c)
  | false=>some (s%nn,a,c)

def prT:Option (Int×KK×KK)→TV
 | none=>.tup [.agg (words 0),.agg (ptC 0 0 true),.one (.bool false)]
 | some (d,a,c)=>.tup [.agg (words d),.agg (ptC (vK a) (vK c) false),.one (.bool true)]

theorem prT_closed (o:Option (Int×KK×KK)):(prT o).closed 0=true:=by
 match o with
 | none=>rfl
 | some (d,a,c)=>rfl

def ordPr:Nat→Option (List Nat)
 | 4=>some [100000,0,1,2,3,4]
 | 7=>some [100000,0,1,2,3,4]
 | _=>none

set_option maxHeartbeats 1000000 in
set_option maxRecDepth 100000 in
theorem pair_fn {s:Int} (hs:InW s):Ev.Fn PG f_sig_pair [W s] (prT (prV s)):=by
 refine fn_startH ordPr h_sig_pair rfl (by kernel_rfl) (fun _=>by kernel_rfl) rfl (prT_closed _) fun A=>?_
 have c1:=scNorm_fn hs
 have ins:InW (s%nn):=by unfold nn; exact ⟨by omega,by omega⟩
 obtain ⟨gx,gy,gb,igx,igy,eg,tg,_⟩:=pt_nm gP gP_on
 have cb:=base_fn
 rw [eg] at cb
 have cm:=cMul_fn (b:=gb) ins igx igy
 rw [tg,smul_modI gP_on hs.1] at cm
 have on:=smul_on fld gP gP_on s.toNat
 have cn:=scNeg_fn ins
 unfold prV
 generalize smul s.toNat gP=P at *
 match P,on with
 | none,_=>
  have cm:Ev.Fn PG f_curve_Mul [W (s%nn),ptV gx gy gb] (ptV 0 0 true):=cm
  refine swp_cut fun K hK hR _=>?_
  conv=>whnf
  refine hK _ _ ?_
  clear hK hR
  refine swp_cut fun K hK hR _=>?_
  conv=>whnf
  refine ⟨_,c1,rfl,?_⟩
  conv=>whnf
  refine hK _ _ ?_
  clear hK hR
  refine swp_cut fun K hK hR _=>?_
  conv=>whnf
  refine ⟨_,cb,rfl,?_⟩
  conv=>whnf
  refine ⟨_,cm,rfl,?_⟩
  conv=>whnf
  refine hK _ _ ?_
  clear hK hR
  refine swp_cut fun K hK hR _=>?_
  conv=>whnf
  refine hR _ _ ?_
  conv=>whnf
  intro c N2 _ _
  rfl
 | some (a,c),on=>
  have cm:Ev.Fn PG f_curve_Mul [W (s%nn),ptV gx gy gb] (ptV (vK a) (vK c) false):=cm
  have co:=feOdd_fn (vK_in c)
  rw [vK_mod] at co
  have cg:=cNeg_fn (b:=false) (vK_in a) (vK_in c)
  rw [tkn_pt on] at cg
  have cg:Ev.Fn PG f_curve_Neg [ptV (vK a) (vK c) false] (ptV (vK a) (vK (-c)) false):=cg
  show swpC _ _ (post _ _ fun v' m=>∀ c1 N1,Base.le m.N N1→Lent c1 N1 m.bs→TV.ext c1 v'=prT (match decide (vK c%2=1) with | true=>some (-(s%nn)%nn,a,-c) | false=>some (s%nn,a,c))) _ _
  obtain ⟨od,hod⟩:∃ o,decide (vK c%2=1)=o:=⟨_,rfl⟩
  rw [hod] at co ⊢
  refine swp_cut fun K hK hR _=>?_
  conv=>whnf
  refine hK _ _ ?_
  clear hK hR
  refine swp_cut fun K hK hR _=>?_
  conv=>whnf
  refine ⟨_,c1,rfl,?_⟩
  conv=>whnf
  refine hK _ _ ?_
  clear hK hR
  refine swp_cut fun K hK hR _=>?_
  conv=>whnf
  refine ⟨_,cb,rfl,?_⟩
  conv=>whnf
  refine ⟨_,cm,rfl,?_⟩
  conv=>whnf
  refine hK _ _ ?_
  clear hK hR
  refine swp_cut fun K hK hR _=>?_
  conv=>whnf
  refine hK _ _ ?_
  clear hK hR
  refine swp_cut fun K hK hR _=>?_
  refine swp_cut fun K2 hK2 hR2 _=>?_
  iterate 2 (refine aops_step fun T S hT hS=>?_; (conv=>whnf); refine hT _ _ ?_)
  refine aops_step fun T S hT hS=>?_
  conv=>whnf
  refine ⟨_,co,rfl,?_⟩
  refine hT _ _ ?_
  refine aops_end ?_
  refine hK2 _ _ ?_
  clear hK2 hR2
  cases od with
  | true=>
   conv=>whnf
   refine ⟨_,cn,rfl,?_⟩
   conv=>whnf
   refine ⟨_,cg,rfl,?_⟩
   conv=>whnf
   refine hR _ _ ?_
   conv=>whnf
   intro c9 N2 _ _
   rfl
  | false=>
   conv=>whnf
   refine hK _ _ ?_
   clear hK hR
   refine swp_cut fun K hK hR _=>?_
   conv=>whnf
   refine hK _ _ ?_
   clear hK hR
   conv=>whnf
   intro c9 N2 _ _
   rfl

def keyT:Option (Int×KK×KK)→TV
 | none=>.tup [.agg (u8s zD32),.one (.bool false)]
 | some (_,a,_)=>.tup [.agg (u8s (byt (vK a))),.one (.bool true)]

set_option maxHeartbeats 1000000 in
set_option maxRecDepth 100000 in
theorem public_fn {s:Int} (hs:InW s):Ev.Fn PG f_sig_Public [W s] (keyT (prV s)):=by
 refine fn_startH (fun _=>none) h_sig_Public rfl (by kernel_rfl) (fun _=>by kernel_rfl) rfl (by match prV s with | none=>rfl | some (d,a,c)=>rfl) fun A=>?_
 have c1:=pair_fn hs
 match prV s,c1 with
 | none,c1=>
  have c1:Ev.Fn PG f_sig_pair [W s] (.tup [.agg (words 0),.agg (ptC 0 0 true),.one (.bool false)]):=c1
  refine swp_cut fun K hK hR _=>?_
  conv=>whnf
  refine hK _ _ ?_
  clear hK hR
  refine swp_cut fun K hK hR _=>?_
  conv=>whnf
  refine ⟨_,c1,rfl,?_⟩
  conv=>whnf
  refine hK _ _ ?_
  clear hK hR
  refine swp_cut fun K hK hR _=>?_
  conv=>whnf
  refine hR _ _ ?_
  conv=>whnf
  intro c N2 _ _
  rfl
 | some (d,a,c),c1=>
  have c1:Ev.Fn PG f_sig_pair [W s] (.tup [.agg (words d),.agg (ptC (vK a) (vK c) false),.one (.bool true)]):=c1
  have c2:=feBytes_fn (vK_in a)
  rw [vK_mod] at c2
  refine swp_cut fun K hK hR _=>?_
  conv=>whnf
  refine hK _ _ ?_
  clear hK hR
  refine swp_cut fun K hK hR _=>?_
  conv=>whnf
  refine ⟨_,c1,rfl,?_⟩
  conv=>whnf
  refine hK _ _ ?_
  clear hK hR
  refine swp_cut fun K hK hR _=>?_
  conv=>whnf
  refine hK _ _ ?_
  clear hK hR
  refine swp_cut fun K hK hR _=>?_
  conv=>whnf
  refine ⟨_,c2,rfl,?_⟩
  conv=>whnf
  refine hK _ _ ?_
  clear hK hR
  conv=>whnf
  intro c N2 _ _
  rfl

end Go.Hv

namespace Go.Hv
open Go.Ev Go.Ec

theorem tag_u8 (nm:ByteArray) (Xs:List (List Int)):∀ z∈tagD nm Xs,0≤z∧z<256:=dgl_u8 _
theorem tag_len (nm:ByteArray) (Xs:List (List Int)):(tagD nm Xs).length=32:=shaD_len _

theorem Texts.stable {A:Base} {q:TV} {Xs:List (List Int)} (h:Texts A q Xs):(∀ n,q.closed n=true)∧(∀ c,TV.ext c q=q):=by
 obtain ⟨Ss,hSt,_⟩:=h
 exact ⟨hSt.stable.1,hSt.stable.2.2⟩

def redN (nm:ByteArray) (Xs:List (List Int)):Int:=numB (tagD nm Xs)%nn
theorem redN_in (nm:ByteArray) (Xs:List (List Int)):InW (redN nm Xs):=by
 unfold redN nn
 exact ⟨by omega,by omega⟩

theorem reduced_hc {A:Base} {nm:ByteArray} {q:TV} {Xs:List (List Int)} (hTb:Tab A) (hq:Texts A q Xs) (hnm:nm.size≤1000000) (hY:(tagY (shaD (nmB nm)) Xs Xs.length).length≤140737488360000) :
  HC PG A f_sig_reduced [.one (.str nm),q] fun v _=>v=W (redN nm Xs):=by
 have hcl:closedTs 0 [.one (.str nm),q]=true:=closedTs_iff.2 fun v hv=>by
  simp only [List.mem_cons,List.not_mem_nil,or_false] at hv
  rcases hv with rfl | rfl
  ·rfl
  ·exact hq.stable.1 0
 refine hc_start (fun _=>none) h_sig_reduced rfl (by kernel_rfl) (by kernel_rfl) hcl ?_
 have ct:=fun (B:Base) (hB:Base.le A B)=>tagged_hc (A:=B) (ERead_le hB hTb) (hq.mono hB) hnm hY
 have cr:=red_fn (tag_len nm Xs) (tag_u8 nm Xs)
 have hcc:closedTs 0 [.agg (u8s (tagD nm Xs))]=true:=closedTs_iff.2 fun v hv=>by
  simp only [List.mem_singleton] at hv
  subst hv
  exact ints_cl _ _ 0
 have hce:∀ c,TV.ext c q=q:=hq.stable.2
 unfold redN
 generalize numB (tagD nm Xs)%nn=z at *
 generalize u8s (tagD nm Xs)=D at *
 refine swp_cut fun K hK hR _=>?_
 conv=>whnf
 refine hK _ _ ?_
 clear hK hR
 refine swp_cut fun K hK hR _=>?_
 iterate 2 (refine aops_step fun T S hT hS=>?_; (conv=>whnf); refine hT _ _ ?_)
 refine aops_step fun T S hT hS=>?_
 conv=>whnf
 refine ⟨fun v _=>v=.agg D,fun c B hB hL=>by
  show HC PG B f_sha_Tagged [.one (.str nm),TV.ext c q] _
  rw [hce c]
  exact ct B (fun r o h=>hB r o (.inl h)),⟨.agg D,B0,closedTs_iff.1 hcc _ (by simp),rfl⟩,?_⟩
 rintro v N' _ rfl N1 _
 refine hT _ _ ?_
 refine aops_step fun T S hT hS=>?_
 conv=>whnf
 refine ⟨_,cr,hcc,?_⟩
 refine hT _ _ ?_
 refine aops_step fun T S hT hS=>?_
 conv=>whnf
 refine hT _ _ ?_
 refine aops_end ?_
 refine hK _ _ ?_
 conv=>whnf
 intro c N2 _ _
 rfl

theorem three_lent {c:Con} {B:Base} {bs:Mem} {b0 b1 b2 t0 t1 t2:Nat} {D E X:List Int} {p:Option SP} {cap:Nat} (hL:Lent c B bs) (h0:nth bs b0=some ⟨u8s D,t0,0,false⟩) (h1:nth bs b1=some ⟨u8s E,t1,0,false⟩)
  (h2:nth bs b2=some ⟨[.slice (some (.loc b0 0)) 32 32,.slice (some (.loc b1 0)) 32 32,.slice p X.length cap],t2,0,false⟩) (hD:D.length=32) (hE:E.length=32) (hX:Sl B 1 (.one (.slice p X.length cap)) (ones (u8s X))) :
  Texts B (.one (.slice (some (.ext ⟨c.ι b2,0,none⟩)) 3 3)) [D,E,X]:=by
 have s0:Sl B 1 (.one (.slice (some (.ext ⟨c.ι b0,0,none⟩)) 32 32)) (ones (u8s D)):=sl_lent (b:=b0) (o:=0) (L:=ones (u8s D)) (post:=[]) hL h0 (ints_cl _ _ 0) (by rw [ones_flat]; exact (List.append_nil _).symm) (by rw [u8s_len,hD]) (by rw [u8s_len,hD]; exact Nat.le_refl _) (by rw [u8s_len,hD]; omega) (ones_es _)
 have s1:Sl B 1 (.one (.slice (some (.ext ⟨c.ι b1,0,none⟩)) 32 32)) (ones (u8s E)):=sl_lent (b:=b1) (o:=0) (L:=ones (u8s E)) (post:=[]) hL h1 (ints_cl _ _ 0) (by rw [ones_flat]; exact (List.append_nil _).symm) (by rw [u8s_len,hE]) (by rw [u8s_len,hE]; exact Nat.le_refl _) (by rw [u8s_len,hE]; omega) (ones_es _)
 have sx:Sc.ext c (.slice p X.length cap)=.slice p X.length cap:=by
  have:=hX.stable.2.2 c
  simpa [TV.ext] using this
 have scl:Sc.closed 0 (.slice p X.length cap)=true:=hX.stable.1 0
 refine ⟨[.slice (some (.ext ⟨c.ι b0,0,none⟩)) 32 32,.slice (some (.ext ⟨c.ι b1,0,none⟩)) 32 32,.slice p X.length cap],sl_ext_of (b:=b2) hL h2 (by
  show [Sc.ext c _,Sc.ext c _,Sc.ext c _]=_
  rw [sx]
  rfl) (closedL_iff.2 fun s hs=>by
   simp only [List.mem_cons,List.not_mem_nil,or_false] at hs
   rcases hs with rfl | rfl | rfl
   ·rfl
   ·rfl
   ·exact scl) rfl (Nat.le_refl 3) (by show 3≤140737488355128; omega),rfl,fun i S X' hi hX'=>?_⟩
 match i,hi,hX' with
 | 0,hi,hX'=>
  obtain rfl:=Option.some.inj hi
  obtain rfl:=Option.some.inj hX'
  exact s0
 | 1,hi,hX'=>
  obtain rfl:=Option.some.inj hi
  obtain rfl:=Option.some.inj hX'
  exact s1
 | 2,hi,hX'=>
  obtain rfl:=Option.some.inj hi
  obtain rfl:=Option.some.inj hX'
  exact hX
 | i+3,hi,hX'=>simp at hi

theorem one_lent {c:Con} {B:Base} {bs:Mem} {b0 b2 t0 t2:Nat} {D:List Int} (hL:Lent c B bs) (h0:nth bs b0=some ⟨u8s D,t0,0,false⟩)
  (h2:nth bs b2=some ⟨[.slice (some (.loc b0 0)) 32 32],t2,0,false⟩) (hD:D.length=32):Texts B (.one (.slice (some (.ext ⟨c.ι b2,0,none⟩)) 1 1)) [D]:=by
 have s0:Sl B 1 (.one (.slice (some (.ext ⟨c.ι b0,0,none⟩)) 32 32)) (ones (u8s D)):=sl_lent (b:=b0) (o:=0) (L:=ones (u8s D)) (post:=[]) hL h0 (ints_cl _ _ 0) (by rw [ones_flat]; exact (List.append_nil _).symm) (by rw [u8s_len,hD]) (by rw [u8s_len,hD]; exact Nat.le_refl _) (by rw [u8s_len,hD]; omega) (ones_es _)
 refine ⟨[.slice (some (.ext ⟨c.ι b0,0,none⟩)) 32 32],sl_ext_of (b:=b2) hL h2 rfl rfl rfl (Nat.le_refl 1) (by show 1≤140737488355128; omega),rfl,fun i S X' hi hX'=>?_⟩
 match i,hi,hX' with
 | 0,hi,hX'=>
  obtain rfl:=Option.some.inj hi
  obtain rfl:=Option.some.inj hX'
  exact s0
 | i+1,hi,hX'=>simp at hi

theorem tagY3 (nm:ByteArray) {D E X:List Int} (hD:D.length=32) (hE:E.length=32) (hX:X.length≤140737488355128):(tagY (shaD (nmB nm)) [D,E,X] [D,E,X].length).length≤140737488360000:=by
 unfold tagY
 rw [List.take_of_length_le (Nat.le_refl _)]
 simp only [List.length_append,shaD_len,List.flatten_cons,List.flatten_nil,List.append_nil,hD,hE]
 omega
theorem tagY1 (nm:ByteArray) {D:List Int} (hD:D.length=32):(tagY (shaD (nmB nm)) [D] [D].length).length≤140737488360000:=by
 unfold tagY
 rw [List.take_of_length_le (Nat.le_refl _)]
 simp only [List.length_append,shaD_len,List.flatten_cons,List.flatten_nil,List.append_nil,hD]
 omega

def xr8 (a b:Int):Int:=IntKind.wrap .u8 (BitVec.ofInt (IntKind.bits .u8) a ^^^ BitVec.ofInt (IntKind.bits .u8) b).toNat
def xorL (A B:List Int):List Int:=List.zipWith xr8 A B
theorem xor_len {A B:List Int} (hA:A.length=32) (hB:B.length=32):(xorL A B).length=32:=by
 unfold xorL
 rw [List.length_zipWith,hA,hB]
 rfl
theorem xor_u8 (A B:List Int):∀ z∈xorL A B,0≤z∧z<256:=fun z hz=>by
 unfold xorL at hz
 obtain ⟨i,hi,rfl⟩:=List.getElem_of_mem hz
 rw [List.getElem_zipWith]
 exact wrap8_lt _

def trow (A L:List Int) (i:Nat):List Sc:=u8s (L.take i++A.drop i)
theorem trow_take {A L:List Int} {i:Nat} (hi:i<A.length) (hl:L.length=A.length):takeAt (trow A L i) (0+i*1) 1=some [.int .u8 A[i]]:=by
 have h:=takeAt_app (u8s (L.take i)) [Sc.int .u8 A[i]] (u8s (A.drop (i+1)))
 have e:trow A L i=u8s (L.take i)++([Sc.int .u8 A[i]]++u8s (A.drop (i+1))):=by
  unfold trow u8s
  rw [List.map_append,List.drop_eq_getElem_cons hi,List.map_cons]
  rfl
 rw [e,show 0+i*1=(u8s (L.take i)).length by rw [List.length_map,List.length_take]; omega]
 exact h
theorem trow_put {A L:List Int} {i:Nat} (hi:i<A.length) (hl:L.length=A.length):putAt (trow A L i) (0+i*1) [.int .u8 (L[i]'(by omega))]=some (trow A L (i+1)):=by
 have h:=putAt_app (u8s (L.take i)) [Sc.int .u8 A[i]] (u8s (A.drop (i+1))) [.int .u8 (L[i]'(by omega))] rfl
 have e:trow A L i=u8s (L.take i)++([Sc.int .u8 A[i]]++u8s (A.drop (i+1))):=by
  unfold trow u8s
  rw [List.map_append,List.drop_eq_getElem_cons hi,List.map_cons]
  rfl
 have e2:trow A L (i+1)=u8s (L.take i)++([.int .u8 (L[i]'(by omega))]++u8s (A.drop (i+1))):=by
  unfold trow u8s
  rw [List.take_succ_eq_append_getElem (by omega),List.map_append,List.map_append,List.append_assoc]
  rfl
 rw [e,e2,show 0+i*1=(u8s (L.take i)).length by rw [List.length_map,List.length_take]; omega]
 exact h
theorem trow_all {A L:List Int} {n:Nat} (hA:A.length=n) (hl:L.length=n):trow A L n=u8s L:=by
 unfold trow
 rw [List.take_of_length_le (by omega),List.drop_eq_nil_of_le (by omega),List.append_nil]
theorem u8_one {A:List Int} {i:Nat} (hi:i<A.length):takeAt (u8s A) (i*1) 1=some [.int .u8 A[i]]:=by
 have:=u8_take A hi
 rwa [Nat.zero_add] at this

end Go.Hv

namespace Go.Hv
open Go.Ev Go.Ec

def nmAux:ByteArray:=⟨#[66,73,80,48,51,52,48,47,97,117,120]⟩
def nmNon:ByteArray:=⟨#[66,73,80,48,51,52,48,47,110,111,110,99,101]⟩
def nmCha:ByteArray:=⟨#[66,73,80,48,51,52,48,47,99,104,97,108,108,101,110,103,101]⟩

theorem prV_in {s d:Int} {a c:KK} (h:prV s=some (d,a,c)):InW d∧d%nn=d∧On (some (a,c))∧vK c%2=0:=by
 have on:=smul_on fld gP gP_on s.toNat
 unfold prV at h
 generalize smul s.toNat gP=P at *
 match P,on,h with
 | some (a',c'),on,h=>
  simp only at h
  have hc:=vK_lt c'
  cases hd:decide (vK c'%2=1) with
  | true=>
   rw [hd] at h
   simp only [Option.some.injEq,Prod.mk.injEq] at h
   obtain ⟨rfl,rfl,rfl⟩:=h
   have h1:=of_decide_eq_true hd
   have hn0:c'≠0:=fun e=>by rw [e] at h1; exact absurd h1 (by decide)
   have hv0:vK c'≠0:=fun e=>hn0 (vK_eq0.1 e)
   have hneg:vK (-c')=pp-vK c':=by
    have h2:vK (-c')=(-(vK c'))%pp:=by rw [← vK_toK,toK_neg,toK_vK]
    rw [h2]
    unfold pp at *
    omega
   refine ⟨by unfold nn; exact ⟨by omega,by omega⟩,by unfold nn; omega,?_,?_⟩
   ·exact neg_on _ on
   ·rw [hneg]
    unfold pp at *
    omega
  | false=>
   rw [hd] at h
   simp only [Option.some.injEq,Prod.mk.injEq] at h
   obtain ⟨rfl,rfl,rfl⟩:=h
   have h1:=of_decide_eq_false hd
   exact ⟨by unfold nn; exact ⟨by omega,by omega⟩,by unfold nn; omega,on,by omega⟩

noncomputable def sg3 (d xa xr k:Int) (X:List Int):List Int:=byt xr++byt ((k+redN nmCha [byt xr,byt xa,X]*d%nn)%nn)
noncomputable def sg2 (d xa:Int) (X:List Int):Option (List Int):=
 match prV (redN nmNon [xorL (byt d) (tagD nmAux [zD32]),byt xa,X]) with
 | none=>none
 | some (k,r,_)=>some (sg3 d xa (vK r) k X)
noncomputable def sgV (s:Int) (X:List Int):Option (List Int):=
 match prV s with
 | none=>none
 | some (d,a,_)=>sg2 d (vK a) X

def sgT:Option (List Int)→TV
 | none=>.tup [.agg (u8s (List.replicate 64 0)),.one (.bool false)]
 | some b=>.tup [.agg (u8s b),.one (.bool true)]

def ordSg:Nat→Option (List Nat)
 | 11=>some [0,1,2,3,4,5,6,7,8,9,14,10,12,11,13]
 | _=>none

def SgE (q:TV) (aux:List Int) (i:Nat):Env:=[(36,.one (.int .i64 (i:Int))),(35,.agg (u8s aux)),(10,.one (.ptr (some (.loc 5 0)))),(9,.one (.ptr (some (.loc 4 0)))),(6,.one (.ptr (some (.loc 2 0)))),(4,.one (.ptr (some (.loc 1 0)))),(1,q)]

def SgI (q:TV) (d xa:Int) (aux:List Int) (k:Nat) (e:Env) (m:HM):Prop:=
 ∃ (i t1 t2 t4 t5:Nat) (N:Base),i≤32∧k=32-i∧e=SgE q aux i ∧
  m=⟨[none,some ⟨u8s (List.replicate 64 0),t1,0,false⟩,some ⟨words d,t2,0,false⟩,none,some ⟨u8s (byt xa),t4,0,false⟩,some ⟨trow (byt d) (xorL (byt d) aux) i,t5,0,false⟩,none,none],N⟩

set_option maxHeartbeats 1000000 in
set_option maxRecDepth 100000 in
theorem sign_hc {A:Base} {s:Int} {p:Option SP} {cap:Nat} {X:List Int} (hTb:Tab A) (hs:InW s) (hX:Sl A 1 (.one (.slice p X.length cap)) (ones (u8s X))) :
  HC PG A f_sig_Sign [W s,.one (.slice p X.length cap)] fun v _=>v=sgT (sgV s X):=by
 have hXl:X.length≤140737488355128:=by
  obtain ⟨_,_,e,h1,_⟩:=hX
  have:=h1.2
  rw [u8s_len] at this
  exact this
 refine hc_start ordSg h_sig_Sign rfl (by kernel_rfl) (by kernel_rfl) (closedTs_iff.2 fun v hv=>by
  simp only [List.mem_cons,List.not_mem_nil,or_false] at hv
  rcases hv with rfl | rfl
  ·rfl
  ·exact hX.stable.1 0) ?_
 have c1:=pair_fn hs
 cases hp:prV s with
 | none=>
  have e0:sgV s X=none:=by unfold sgV; rw [hp]
  rw [e0]
  rw [hp] at c1
  have c1:Ev.Fn PG f_sig_pair [W s] (.tup [.agg (words 0),.agg (ptC 0 0 true),.one (.bool false)]):=c1
  refine swp_cut fun K hK hR _=>?_
  conv=>whnf
  refine hK _ _ ?_
  clear hK hR
  refine swp_cut fun K hK hR _=>?_
  conv=>whnf
  refine ⟨_,c1,rfl,?_⟩
  conv=>whnf
  refine hK _ _ ?_
  clear hK hR
  refine swp_cut fun K hK hR _=>?_
  conv=>whnf
  refine hR _ _ ?_
  conv=>whnf
  intro c N2 _ _
  rfl
 | some dac=>
  obtain ⟨d,a,y⟩:=dac
  have e0:sgV s X=sg2 d (vK a) X:=by unfold sgV; rw [hp]
  rw [e0]
  rw [hp] at c1
  obtain ⟨id_,dm,_,_⟩:=prV_in hp
  have c1:Ev.Fn PG f_sig_pair [W s] (.tup [.agg (words d),.agg (ptC (vK a) (vK y) false),.one (.bool true)]):=c1
  have ia:=vK_in a
  have c2:=feBytes_fn (vK_in a)
  rw [vK_mod] at c2
  have c3:=scBytes_fn id_
  rw [dm] at c3
  clear hp e0
  generalize vK y=ya at *
  generalize vK a=xa at *
  have haux:=tag_len nmAux [zD32]
  have cA:=fun (B:Base) (hB:Base.le A B) {q:TV} (hq:Texts B q [zD32])=>tagged_hc (A:=B) (nm:=nmAux) (ERead_le hB hTb) hq (by decide) (tagY1 nmAux rfl)
  have e2:sg2 d xa X=match prV (redN nmNon [xorL (byt d) (tagD nmAux [zD32]),byt xa,X]) with
   | none=>none
   | some (k,r,_)=>some (sg3 d xa (vK r) k X):=rfl
  generalize sg2 d xa X=ans at *
  generalize tagD nmAux [zD32]=aux at *
  have hxl:=xor_len (byt_len d) haux
  refine swp_cut fun K hK hR _=>?_
  conv=>whnf
  refine hK _ _ ?_
  clear hK hR
  refine swp_cut fun K hK hR _=>?_
  conv=>whnf
  refine ⟨_,c1,rfl,?_⟩
  conv=>whnf
  refine hK _ _ ?_
  clear hK hR
  refine swp_cut fun K hK hR _=>?_
  conv=>whnf
  refine hK _ _ ?_
  clear hK hR
  refine swp_cut fun K hK hR _=>?_
  conv=>whnf
  refine ⟨_,c2,rfl,?_⟩
  conv=>whnf
  refine hK _ _ ?_
  clear hK hR
  refine swp_cut fun K hK hR _=>?_
  conv=>whnf
  refine ⟨_,c3,rfl,?_⟩
  conv=>whnf
  refine hK _ _ ?_
  clear hK hR
  refine swp_cut fun K hK hR _=>?_
  refine swp_cut fun K2 hK2 hR2 _=>?_
  refine aops_step fun T S hT hS=>?_
  conv=>whnf
  refine ⟨⟨by decide,rfl,by decide,by decide,rfl⟩,?_⟩
  conv=>whnf
  refine hT _ _ ?_
  refine aops_step fun T S hT hS=>?_
  conv=>whnf
  refine hT _ _ ?_
  refine aops_step fun T S hT hS=>?_
  conv=>whnf
  refine ⟨fun v _=>v=.agg (u8s aux),fun c B hB hL=>cA B (fun r o h=>hB r o (.inl h)) (one_lent (b0:=6) (b2:=7) hL rfl rfl rfl),⟨.agg (u8s aux),B0,ints_cl _ _ 0,rfl⟩,?_⟩
  rintro v N' _ rfl N1 _
  refine hT _ _ ?_
  refine aops_step fun T S hT hS=>?_
  conv=>whnf
  refine hT _ _ ?_
  refine aops_end ?_
  refine hK2 _ _ ?_
  clear hK2 hR2
  conv=>whnf
  have hagg:∀ F c,TV.agg (u8s aux)=TV.fz F c (.agg (u8s aux)):=fun F c=>by
   show _=TV.agg (fzL F c (u8s aux))
   rw [fzL_cl (ints_cl _ _ 0)]
  refine .inr (loop_invC (gH A _) (SgI (.one (.slice p X.length cap)) d xa aux) ?_ ?_)
  ·intro k' e' m' hI
   obtain ⟨i,t1,t2,t4,t5,N,hi,rfl,rfl,rfl⟩:=hI
   conv=>whnf
   cases hlt:decide ((i:Int)<32) with
   | true=>
    have hi':i<32:=by have:=of_decide_eq_true hlt; omega
    have hax:=u8_one (A:=aux) (i:=i) (by omega)
    have htk:=trow_take (A:=byt d) (L:=xorL (byt d) aux) (i:=i) (by rw [byt_len]; exact hi') (by rw [hxl,byt_len])
    have hpt:=trow_put (A:=byt d) (L:=xorL (byt d) aux) (i:=i) (by rw [byt_len]; exact hi') (by rw [hxl,byt_len])
    have hxe:(xorL (byt d) aux)[i]'(by rw [hxl]; exact hi')=xr8 ((byt d)[i]'(by rw [byt_len]; exact hi')) (aux[i]'(by omega)):=by
     unfold xorL
     rw [List.getElem_zipWith]
    rw [hxe] at hpt
    have hblk:∀ (F:Nat→Bool) (c:Con) (i:Nat),(⟨trow (byt d) (xorL (byt d) aux) i,t5,0,false⟩:Blk)=⟨fzL F c (trow (byt d) (xorL (byt d) aux) i),t5,0,false⟩:=fun F c i=>by
     unfold trow
     rw [fzL_cl (ints_cl _ _ 0)]
    generalize (byt d)[i]'(by rw [byt_len]; exact hi')=dz at *
    generalize aux[i]'(by omega)=az at *
    show swpC _ (Code.seq _ _) _ _ _
    refine swp_cut fun K4 hK4 hR4 _=>?_
    refine blk_swp ?_
    refine swp_cut fun K3 hK3 hR3 _=>?_
    refine aops_step fun T S hT hS=>?_
    conv=>whnf
    refine hT _ _ ?_
    refine aops_step fun T S hT hS=>?_
    conv=>whnf
    rw [dec_idx (n:=32) hi']
    conv=>whnf
    conv in (takeAt _ _ _)=>change takeAt (u8s aux) (i*1) 1; rw [hax]
    conv=>whnf
    refine hT _ _ ?_
    iterate 2 (refine aops_step fun T S hT hS=>?_; (conv=>whnf); refine hT _ _ ?_)
    refine aops_end ?_
    refine hK3 _ _ ?_
    clear hK3 hR3
    refine aops_step fun T S hT hS=>?_
    conv=>whnf
    refine hT _ _ ?_
    refine aops_step fun T S hT hS=>?_
    conv=>whnf
    rw [dec_idx (n:=32) hi']
    conv=>whnf
    refine hT _ _ ?_
    refine aops_step fun T S hT hS=>?_
    conv=>whnf
    conv in (takeAt _ _ _)=>change takeAt (trow (byt d) (xorL (byt d) aux) i) (0+i*1) 1; rw [htk]
    conv=>whnf
    refine hT _ _ ?_
    iterate 2 (refine aops_step fun T S hT hS=>?_; (conv=>whnf); refine hT _ _ ?_)
    refine aops_step fun T S hT hS=>?_
    conv=>whnf
    rw [dec_idx (n:=32) hi']
    conv=>whnf
    refine hT _ _ ?_
    refine aops_step fun T S hT hS=>?_
    conv=>whnf
    conv in (putAt _ _ _)=>change putAt (trow (byt d) (xorL (byt d) aux) i) (0+i*1) [.int .u8 (xr8 dz az)]; rw [hpt]
    conv=>whnf
    refine hT _ _ ?_
    refine aops_end ?_
    refine hK4 _ _ ?_
    clear hK4 hR4
    conv=>whnf
    refine ⟨32-(i+1),F0,by omega,fun c N1 _ _=>⟨_,_,wk_of (by (repeat' apply And.intro)<;>first | trivial | exact ⟨_,rfl,tv_inc (n:=32) hi' (by omega),rfl⟩ | exact ⟨_,rfl,hagg _ _,ints_cl _ _ _⟩ | exact ⟨_,rfl,hX.stable.2.1 _ _,hX.stable.1 _⟩ | exact ⟨_,rfl,rfl,rfl⟩) (by (repeat' apply And.intro)<;>first | trivial | rfl | exact ⟨_,rfl,hblk _ _ _,ints_cl _ _ _⟩ | exact ⟨_,rfl,rfl,rfl⟩) (by exact Nat.le_of_ble_eq_true rfl) (by exact Nat.le_of_ble_eq_true rfl),⟨i+1,t1,t2,t4,t5,N1,hi',rfl,rfl,rfl⟩⟩⟩
   | false=>
    obtain rfl:i=32:=by have:=of_decide_eq_false hlt; omega
    conv=>whnf
    refine hK _ _ ?_
    clear hK hR
    rw [trow_all (byt_len d) hxl]
    have ik:=redN_in nmNon [xorL (byt d) aux,byt xa,X]
    have cN:=fun (B:Base) (hB:Base.le A B) {q:TV} (hq:Texts B q [xorL (byt d) aux,byt xa,X])=>reduced_hc (A:=B) (nm:=nmNon) (ERead_le hB hTb) hq (by decide) (tagY3 nmNon hxl (byt_len _) hXl)
    generalize redN nmNon [xorL (byt d) aux,byt xa,X]=k0 at *
    have cp:=pair_fn ik
    generalize xorL (byt d) aux=tx at *
    refine swp_cut fun K hK hR _=>?_
    iterate 4 (refine aops_step fun T S hT hS=>?_; (conv=>whnf); refine hT _ _ ?_)
    refine aops_step fun T S hT hS=>?_
    conv=>whnf
    refine ⟨fun v _=>v=W k0,fun c B hB hL=>by
     show HC PG B f_sig_reduced [.one (.str nmNon),.one (.slice (some (.ext ⟨c.ι 8,0,none⟩)) 3 3)] _
     exact cN B (fun r o h=>hB r o (.inl h)) (three_lent (b0:=5) (b1:=4) (b2:=8) hL rfl rfl rfl hxl (byt_len _) (hX.mono (fun r o h=>hB r o (.inl h)))),⟨_,B0,rfl,rfl⟩,?_⟩
    rintro v N' _ rfl N1 _
    refine hT _ _ ?_
    cases hp2:prV k0 with
    | none=>
     rw [hp2] at cp e2
     have e2:ans=none:=e2
     have cp:Ev.Fn PG f_sig_pair [W k0] (.tup [.agg (words 0),.agg (ptC 0 0 true),.one (.bool false)]):=cp
     refine aops_step fun T S hT hS=>?_
     conv=>whnf
     refine ⟨_,cp,rfl,?_⟩
     refine hT _ _ ?_
     iterate 9 (refine aops_step fun T S hT hS=>?_; (conv=>whnf); refine hT _ _ ?_)
     refine aops_end ?_
     refine hK _ _ ?_
     clear hK hR
     refine swp_cut fun K hK hR _=>?_
     conv=>whnf
     refine hR _ _ ?_
     conv=>whnf
     intro c N2 _ _
     rw [e2]
     rfl
    | some krr=>
     obtain ⟨k,r,ry⟩:=krr
     rw [hp2] at cp e2
     have e2:ans=some (sg3 d xa (vK r) k X):=e2
     have cp:Ev.Fn PG f_sig_pair [W k0] (.tup [.agg (words k),.agg (ptC (vK r) (vK ry) false),.one (.bool true)]):=cp
     obtain ⟨ikk,_,_,_⟩:=prV_in hp2
     have ir:=vK_in r
     have c5:=feBytes_fn (vK_in r)
     rw [vK_mod] at c5
     clear hp2
     generalize vK ry=yr at *
     generalize vK r=xr at *
     have ie:=redN_in nmCha [byt xr,byt xa,X]
     have cC:=fun (B:Base) (hB:Base.le A B) {q:TV} (hq:Texts B q [byt xr,byt xa,X])=>reduced_hc (A:=B) (nm:=nmCha) (ERead_le hB hTb) hq (by decide) (tagY3 nmCha (byt_len _) (byt_len _) hXl)
     have e3:sg3 d xa xr k X=byt xr++byt ((k+redN nmCha [byt xr,byt xa,X]*d%nn)%nn):=rfl
     rw [e3] at e2
     clear e3
     generalize redN nmCha [byt xr,byt xa,X]=e at *
     have cm:=scMul_fn ie id_
     have im:InW (e*d%nn):=by unfold nn; exact ⟨by omega,by omega⟩
     generalize e*d%nn=ed at *
     have ca:=scAdd_fn ikk im
     have iz:InW ((k+ed)%nn):=by unfold nn; exact ⟨by omega,by omega⟩
     have cz:=scBytes_fn iz
     rw [Int.emod_emod_of_dvd _ (Int.dvd_refl nn)] at cz
     generalize (k+ed)%nn=z at *
     refine aops_step fun T S hT hS=>?_
     conv=>whnf
     refine ⟨_,cp,rfl,?_⟩
     refine hT _ _ ?_
     iterate 9 (refine aops_step fun T S hT hS=>?_; (conv=>whnf); refine hT _ _ ?_)
     refine aops_end ?_
     refine hK _ _ ?_
     clear hK hR
     refine swp_cut fun K hK hR _=>?_
     conv=>whnf
     refine hK _ _ ?_
     clear hK hR
     refine swp_cut fun K hK hR _=>?_
     conv=>whnf
     refine ⟨_,c5,rfl,?_⟩
     conv=>whnf
     refine hK _ _ ?_
     clear hK hR
     refine swp_cut fun K hK hR _=>?_
     iterate 4 (refine aops_step fun T S hT hS=>?_; (conv=>whnf); refine hT _ _ ?_)
     refine aops_step fun T S hT hS=>?_
     conv=>whnf
     refine ⟨fun v _=>v=W e,fun c B hB hL=>by
      show HC PG B f_sig_reduced [.one (.str nmCha),.one (.slice (some (.ext ⟨c.ι 12,0,none⟩)) 3 3)] _
      exact cC B (fun r o h=>hB r o (.inl h)) (three_lent (b0:=11) (b1:=4) (b2:=12) hL rfl rfl rfl (byt_len _) (byt_len _) (hX.mono (fun r o h=>hB r o (.inl h)))),⟨_,B0,rfl,rfl⟩,?_⟩
     rintro v N' _ rfl N1 _
     refine hT _ _ ?_
     iterate 2 (refine aops_step fun T S hT hS=>?_; (conv=>whnf); refine hT _ _ ?_)
     refine aops_end ?_
     refine hK _ _ ?_
     clear hK hR
     refine swp_cut fun K hK hR _=>?_
     iterate 3 (refine aops_step fun T S hT hS=>?_; (conv=>whnf); refine hT _ _ ?_)
     refine aops_step fun T S hT hS=>?_
     conv=>whnf
     refine ⟨_,cm,rfl,?_⟩
     refine hT _ _ ?_
     refine aops_step fun T S hT hS=>?_
     conv=>whnf
     refine ⟨_,ca,rfl,?_⟩
     refine hT _ _ ?_
     refine aops_step fun T S hT hS=>?_
     conv=>whnf
     refine ⟨_,cz,rfl,?_⟩
     refine hT _ _ ?_
     iterate 2 (refine aops_step fun T S hT hS=>?_; (conv=>whnf); refine hT _ _ ?_)
     refine aops_end ?_
     refine hK _ _ ?_
     clear hK hR
     refine swp_cut fun K hK hR _=>?_
     conv=>whnf
     refine hK _ _ ?_
     clear hK hR
     refine swp_cut fun K hK hR _=>?_
     iterate 2 (refine aops_step fun T S hT hS=>?_; (conv=>whnf); refine hT _ _ ?_)
     refine aops_step fun T S hT hS=>?_
     conv=>whnf
     refine ⟨u8s (byt xr),rfl,?_⟩
     conv=>whnf
     refine hT _ _ ?_
     refine aops_end ?_
     refine hK _ _ ?_
     clear hK hR
     refine swp_cut fun K hK hR _=>?_
     iterate 2 (refine aops_step fun T S hT hS=>?_; (conv=>whnf); refine hT _ _ ?_)
     refine aops_step fun T S hT hS=>?_
     conv=>whnf
     refine ⟨u8s (byt z),rfl,?_⟩
     conv=>whnf
     refine hT _ _ ?_
     refine aops_end ?_
     refine hK _ _ ?_
     clear hK hR
     refine swp_cut fun K hK hR _=>?_
     conv=>whnf
     refine hK _ _ ?_
     conv=>whnf
     intro c N2 _ _
     rw [e2]
     rfl
  ·have hblk:∀ (F:Nat→Bool) (c:Con) (t5:Nat),(⟨trow (byt d) (xorL (byt d) aux) 0,t5,0,false⟩:Blk)=⟨fzL F c (bcs4 d),t5,0,false⟩:=fun F c t5=>rfl
   refine ⟨32,F0,fun c N1 _ _=>⟨_,_,wk_of (by (repeat' apply And.intro)<;>first | trivial | exact ⟨_,rfl,hagg _ _,ints_cl _ _ _⟩ | exact ⟨_,rfl,hX.stable.2.1 _ _,hX.stable.1 _⟩ | exact ⟨_,rfl,rfl,rfl⟩) (by (repeat' apply And.intro)<;>first | trivial | rfl | exact ⟨_,rfl,hblk _ _ _,ints_cl _ _ _⟩ | exact ⟨_,rfl,rfl,rfl⟩) (by exact Nat.le_of_ble_eq_true rfl) (by exact Nat.le_of_ble_eq_true rfl),⟨0,_,_,_,_,N1,by omega,rfl,rfl,rfl⟩⟩⟩

end Go.Hv

namespace Go.Hv
open Go.Ev Go.Ec

theorem half_lent {c:Con} {B:Base} {bs:Mem} {b0 b1 b2 t0 t1 t2:Nat} {D D2 E X:List Int} {p:Option SP} {cap:Nat} (hL:Lent c B bs) (h0:nth bs b0=some ⟨u8s (D++D2),t0,0,false⟩) (h1:nth bs b1=some ⟨u8s E,t1,0,false⟩)
  (h2:nth bs b2=some ⟨[.slice (some (.loc b0 0)) 32 64,.slice (some (.loc b1 0)) 32 32,.slice p X.length cap],t2,0,false⟩) (hD:D.length=32) (hE:E.length=32) (hX:Sl B 1 (.one (.slice p X.length cap)) (ones (u8s X))) :
  Texts B (.one (.slice (some (.ext ⟨c.ι b2,0,none⟩)) 3 3)) [D,E,X]:=by
 have s0:Sl B 1 (.one (.slice (some (.ext ⟨c.ι b0,0,none⟩)) 32 64)) (ones (u8s D)):=sl_lent (b:=b0) (o:=0) (L:=ones (u8s D)) (post:=u8s D2) hL h0 (ints_cl _ _ 0) (by rw [ones_flat,List.drop_zero]; exact List.map_append) (by rw [u8s_len,hD]) (by rw [u8s_len,hD]; omega) (by rw [u8s_len,hD]; omega) (ones_es _)
 have s1:Sl B 1 (.one (.slice (some (.ext ⟨c.ι b1,0,none⟩)) 32 32)) (ones (u8s E)):=sl_lent (b:=b1) (o:=0) (L:=ones (u8s E)) (post:=[]) hL h1 (ints_cl _ _ 0) (by rw [ones_flat]; exact (List.append_nil _).symm) (by rw [u8s_len,hE]) (by rw [u8s_len,hE]; exact Nat.le_refl _) (by rw [u8s_len,hE]; omega) (ones_es _)
 have sx:Sc.ext c (.slice p X.length cap)=.slice p X.length cap:=by
  have:=hX.stable.2.2 c
  simpa [TV.ext] using this
 have scl:Sc.closed 0 (.slice p X.length cap)=true:=hX.stable.1 0
 refine ⟨[.slice (some (.ext ⟨c.ι b0,0,none⟩)) 32 64,.slice (some (.ext ⟨c.ι b1,0,none⟩)) 32 32,.slice p X.length cap],sl_ext_of (b:=b2) hL h2 (by
  show [Sc.ext c _,Sc.ext c _,Sc.ext c _]=_
  rw [sx]
  rfl) (closedL_iff.2 fun s hs=>by
   simp only [List.mem_cons,List.not_mem_nil,or_false] at hs
   rcases hs with rfl | rfl | rfl
   ·rfl
   ·rfl
   ·exact scl) rfl (Nat.le_refl 3) (by show 3≤140737488355128; omega),rfl,fun i S X' hi hX'=>?_⟩
 match i,hi,hX' with
 | 0,hi,hX'=>
  obtain rfl:=Option.some.inj hi
  obtain rfl:=Option.some.inj hX'
  exact s0
 | 1,hi,hX'=>
  obtain rfl:=Option.some.inj hi
  obtain rfl:=Option.some.inj hX'
  exact s1
 | 2,hi,hX'=>
  obtain rfl:=Option.some.inj hi
  obtain rfl:=Option.some.inj hX'
  exact hX
 | i+3,hi,hX'=>simp at hi

noncomputable def vfP (z e x y:Int):Pt PPn:=add (smul z.toNat gP) (smul (-e%nn).toNat (tkn x y false))
def vfR (x:Int):Pt PPn→Bool
 | none=>false
 | some (a,c)=>match decide (vK c%2=1) with
  | true=>false
  | false=>decide (vK a=x)
def vf3 (a b c d:Bool):Bool:=
 match a with
 | false=>false
 | true=>match b with
  | false=>false
  | true=>match c with
   | false=>false
   | true=>d
noncomputable def vfV (key S1 S2 X:List Int):Bool:=
 vf3 (liftR (numB key)).2 (readP (numB S1)).2 (readN (numB S2)).2 (vfR (numB S1) (vfP (numB S2) (redN nmCha [S1,key,X]) (numB key) (liftR (numB key)).1))

theorem liftR_inW (x:Int):InW (liftR x).1:=by
 unfold liftR
 split
 ·exact sqrtP_lt' _
 ·exact ⟨by omega,by omega⟩

theorem readP_eq {y:Int} (h:(readP y).2=true):(readP y).1=y:=by
 unfold readP at *
 split at h
 ·rename_i h1; rw [if_pos h1]
 ·cases h
theorem readN_eq {y:Int} (h:(readN y).2=true):(readN y).1=y:=by
 unfold readN at *
 split at h
 ·rename_i h1; rw [if_pos h1]
 ·cases h

set_option maxHeartbeats 2000000 in
set_option maxRecDepth 100000 in
theorem verify_hc {A:Base} {key S1 S2 X:List Int} {p:Option SP} {cap:Nat} (hTb:Tab A) (hk:key.length=32) (hk8:∀ z∈key,0≤z∧z<256) (h1:S1.length=32) (h18:∀ z∈S1,0≤z∧z<256) (h2:S2.length=32) (h28:∀ z∈S2,0≤z∧z<256)
  (hX:Sl A 1 (.one (.slice p X.length cap)) (ones (u8s X))):HC PG A f_sig_Verify [.agg (u8s key),.one (.slice p X.length cap),.agg (u8s (S1++S2))] fun v _=>v=.one (.bool (vfV key S1 S2 X)):=by
 have hXl:X.length≤140737488355128:=by
  obtain ⟨_,_,e,h1,_⟩:=hX
  have:=h1.2
  rw [u8s_len] at this
  exact this
 refine hc_start (fun _=>none) h_sig_Verify rfl (by kernel_rfl) (by kernel_rfl) (closedTs_iff.2 fun v hv=>by
  simp only [List.mem_cons,List.not_mem_nil,or_false] at hv
  rcases hv with rfl | rfl | rfl
  ·exact ints_cl _ _ 0
  ·exact hX.stable.1 0
  ·exact ints_cl _ _ 0) ?_
 have cl:=liftD_fn hk hk8
 have cr:=feR_fn h1 h18
 have cs:=scR_fn h2 h28
 have i1:=num_in h1 h18
 have i2:=num_in h2 h28
 have ik:=num_in hk hk8
 have il:=liftR_inW (numB key)
 have ie:=redN_in nmCha [S1,key,X]
 have cC:=fun (B:Base) (hB:Base.le A B) {q:TV} (hq:Texts B q [S1,key,X])=>reduced_hc (A:=B) (nm:=nmCha) (ERead_le hB hTb) hq (by decide) (tagY3 nmCha h1 hk hXl)
 have e0:vfV key S1 S2 X=vf3 (liftR (numB key)).2 (readP (numB S1)).2 (readN (numB S2)).2 (vfR (numB S1) (vfP (numB S2) (redN nmCha [S1,key,X]) (numB key) (liftR (numB key)).1)):=rfl
 rw [e0]
 clear e0
 unfold liftV at cl
 have hrp:=@readP_eq (numB S1)
 have hrn:=@readN_eq (numB S2)
 generalize redN nmCha [S1,key,X]=e at *
 generalize numB key=x at *
 generalize numB S1=r1 at *
 generalize numB S2=z2 at *
 generalize liftR x=lr at *
 generalize readP r1=rp at *
 generalize readN z2=rn at *
 obtain ⟨y,ok⟩:=lr
 obtain ⟨r,below⟩:=rp
 obtain ⟨z,is⟩:=rn
 simp only at *
 have tk:takeAt (u8s key) 0 32=some (u8s key):=by
  have:=takeAt_app [] (u8s key) []
  rw [List.append_nil,List.length_map,hk] at this
  exact this
 have ts1:takeAt (u8s (S1++S2)) 0 32=some (u8s S1):=by
  have:=takeAt_app [] (u8s S1) (u8s S2)
  rw [List.length_map,h1,List.nil_append,← List.map_append] at this
  exact this
 have ts2:takeAt (u8s (S1++S2)) 32 32=some (u8s S2):=by
  have:=takeAt_app (u8s S1) (u8s S2) []
  rw [List.length_map,List.length_map,h1,h2,List.append_nil,← List.map_append] at this
  exact this
 have kcl:closedTs 0 [.agg (u8s key)]=true:=closedTs_iff.2 fun v hv=>by
  simp only [List.mem_singleton] at hv
  subst hv
  exact ints_cl _ _ 0
 have scl1:closedTs 0 [.agg (u8s S1)]=true:=closedTs_iff.2 fun v hv=>by
  simp only [List.mem_singleton] at hv
  subst hv
  exact ints_cl _ _ 0
 have scl2:closedTs 0 [.agg (u8s S2)]=true:=closedTs_iff.2 fun v hv=>by
  simp only [List.mem_singleton] at hv
  subst hv
  exact ints_cl _ _ 0
 obtain ⟨gx,gy,gb,igx,igy,eg,tg,_⟩:=pt_nm gP gP_on
 have cb:=base_fn
 rw [eg] at cb
 have cn:=scNeg_fn ie
 have ine:InW (-e%nn):=by unfold nn; exact ⟨by omega,by omega⟩
 cases ok with
 | false=>
  have cl:Ev.Fn PG f_curve_Lift [.agg (u8s key)] (.tup [.agg (ptC 0 0 true),.one (.bool false)]):=cl
  refine swp_cut fun K hK hR _=>?_
  conv=>whnf
  refine hK _ _ ?_
  clear hK hR
  refine swp_cut fun K hK hR _=>?_
  refine aops_step fun T S hT hS=>?_
  conv=>whnf
  conv in (takeAt _ _ _)=>change takeAt (u8s key) 0 32; rw [tk]
  conv=>whnf
  refine hT _ _ ?_
  refine aops_step fun T S hT hS=>?_
  conv=>whnf
  refine ⟨_,cl,kcl,?_⟩
  refine hT _ _ ?_
  iterate 6 (refine aops_step fun T S hT hS=>?_; (conv=>whnf); refine hT _ _ ?_)
  refine aops_end ?_
  refine hK _ _ ?_
  clear hK hR
  refine swp_cut fun K hK hR _=>?_
  iterate 2 (refine aops_step fun T S hT hS=>?_; (conv=>whnf); refine hT _ _ ?_)
  refine aops_step fun T S hT hS=>?_
  conv=>whnf
  conv in (takeAt _ _ _)=>change takeAt (u8s (S1++S2)) 0 32; rw [ts1]
  conv=>whnf
  refine hT _ _ ?_
  refine aops_step fun T S hT hS=>?_
  conv=>whnf
  refine ⟨_,cr,scl1,?_⟩
  refine hT _ _ ?_
  iterate 6 (refine aops_step fun T S hT hS=>?_; (conv=>whnf); refine hT _ _ ?_)
  refine aops_end ?_
  refine hK _ _ ?_
  clear hK hR
  refine swp_cut fun K hK hR _=>?_
  iterate 2 (refine aops_step fun T S hT hS=>?_; (conv=>whnf); refine hT _ _ ?_)
  refine aops_step fun T S hT hS=>?_
  conv=>whnf
  conv in (takeAt _ _ _)=>change takeAt (u8s (S1++S2)) 32 32; rw [ts2]
  conv=>whnf
  refine hT _ _ ?_
  refine aops_step fun T S hT hS=>?_
  conv=>whnf
  refine ⟨_,cs,scl2,?_⟩
  refine hT _ _ ?_
  iterate 6 (refine aops_step fun T S hT hS=>?_; (conv=>whnf); refine hT _ _ ?_)
  refine aops_end ?_
  refine hK _ _ ?_
  clear hK hR
  refine swp_cut fun K hK hR _=>?_
  refine swp_cut fun K2 hK2 hR2 _=>?_
  iterate 3 (refine aops_step fun T S hT hS=>?_; (conv=>whnf); refine hT _ _ ?_)
  iterate 2 (refine aops_step fun T S hT hS=>?_; (conv=>whnf); refine hS ?_)
  iterate 2 (refine aops_step fun T S hT hS=>?_; (conv=>whnf); refine hT _ _ ?_)
  iterate 2 (refine aops_step fun T S hT hS=>?_; (conv=>whnf); refine hS ?_)
  refine aops_step fun T S hT hS=>?_
  conv=>whnf
  refine hT _ _ ?_
  refine aops_end ?_
  refine hK2 _ _ ?_
  conv=>whnf
  refine hR _ _ ?_
  conv=>whnf
  intro c N8 _ _
  rfl
 | true=>
  have cl:Ev.Fn PG f_curve_Lift [.agg (u8s key)] (.tup [.agg (ptC x y false),.one (.bool true)]):=cl
  cases below with
  | false=>
   refine swp_cut fun K hK hR _=>?_
   conv=>whnf
   refine hK _ _ ?_
   clear hK hR
   refine swp_cut fun K hK hR _=>?_
   refine aops_step fun T S hT hS=>?_
   conv=>whnf
   conv in (takeAt _ _ _)=>change takeAt (u8s key) 0 32; rw [tk]
   conv=>whnf
   refine hT _ _ ?_
   refine aops_step fun T S hT hS=>?_
   conv=>whnf
   refine ⟨_,cl,kcl,?_⟩
   refine hT _ _ ?_
   iterate 6 (refine aops_step fun T S hT hS=>?_; (conv=>whnf); refine hT _ _ ?_)
   refine aops_end ?_
   refine hK _ _ ?_
   clear hK hR
   refine swp_cut fun K hK hR _=>?_
   iterate 2 (refine aops_step fun T S hT hS=>?_; (conv=>whnf); refine hT _ _ ?_)
   refine aops_step fun T S hT hS=>?_
   conv=>whnf
   conv in (takeAt _ _ _)=>change takeAt (u8s (S1++S2)) 0 32; rw [ts1]
   conv=>whnf
   refine hT _ _ ?_
   refine aops_step fun T S hT hS=>?_
   conv=>whnf
   refine ⟨_,cr,scl1,?_⟩
   refine hT _ _ ?_
   iterate 6 (refine aops_step fun T S hT hS=>?_; (conv=>whnf); refine hT _ _ ?_)
   refine aops_end ?_
   refine hK _ _ ?_
   clear hK hR
   refine swp_cut fun K hK hR _=>?_
   iterate 2 (refine aops_step fun T S hT hS=>?_; (conv=>whnf); refine hT _ _ ?_)
   refine aops_step fun T S hT hS=>?_
   conv=>whnf
   conv in (takeAt _ _ _)=>change takeAt (u8s (S1++S2)) 32 32; rw [ts2]
   conv=>whnf
   refine hT _ _ ?_
   refine aops_step fun T S hT hS=>?_
   conv=>whnf
   refine ⟨_,cs,scl2,?_⟩
   refine hT _ _ ?_
   iterate 6 (refine aops_step fun T S hT hS=>?_; (conv=>whnf); refine hT _ _ ?_)
   refine aops_end ?_
   refine hK _ _ ?_
   clear hK hR
   refine swp_cut fun K hK hR _=>?_
   refine swp_cut fun K2 hK2 hR2 _=>?_
   iterate 7 (refine aops_step fun T S hT hS=>?_; (conv=>whnf); refine hT _ _ ?_)
   iterate 2 (refine aops_step fun T S hT hS=>?_; (conv=>whnf); refine hS ?_)
   refine aops_step fun T S hT hS=>?_
   conv=>whnf
   refine hT _ _ ?_
   refine aops_end ?_
   refine hK2 _ _ ?_
   conv=>whnf
   refine hR _ _ ?_
   conv=>whnf
   intro c N8 _ _
   rfl
  | true=>
   cases is with
   | false=>
    refine swp_cut fun K hK hR _=>?_
    conv=>whnf
    refine hK _ _ ?_
    clear hK hR
    refine swp_cut fun K hK hR _=>?_
    refine aops_step fun T S hT hS=>?_
    conv=>whnf
    conv in (takeAt _ _ _)=>change takeAt (u8s key) 0 32; rw [tk]
    conv=>whnf
    refine hT _ _ ?_
    refine aops_step fun T S hT hS=>?_
    conv=>whnf
    refine ⟨_,cl,kcl,?_⟩
    refine hT _ _ ?_
    iterate 6 (refine aops_step fun T S hT hS=>?_; (conv=>whnf); refine hT _ _ ?_)
    refine aops_end ?_
    refine hK _ _ ?_
    clear hK hR
    refine swp_cut fun K hK hR _=>?_
    iterate 2 (refine aops_step fun T S hT hS=>?_; (conv=>whnf); refine hT _ _ ?_)
    refine aops_step fun T S hT hS=>?_
    conv=>whnf
    conv in (takeAt _ _ _)=>change takeAt (u8s (S1++S2)) 0 32; rw [ts1]
    conv=>whnf
    refine hT _ _ ?_
    refine aops_step fun T S hT hS=>?_
    conv=>whnf
    refine ⟨_,cr,scl1,?_⟩
    refine hT _ _ ?_
    iterate 6 (refine aops_step fun T S hT hS=>?_; (conv=>whnf); refine hT _ _ ?_)
    refine aops_end ?_
    refine hK _ _ ?_
    clear hK hR
    refine swp_cut fun K hK hR _=>?_
    iterate 2 (refine aops_step fun T S hT hS=>?_; (conv=>whnf); refine hT _ _ ?_)
    refine aops_step fun T S hT hS=>?_
    conv=>whnf
    conv in (takeAt _ _ _)=>change takeAt (u8s (S1++S2)) 32 32; rw [ts2]
    conv=>whnf
    refine hT _ _ ?_
    refine aops_step fun T S hT hS=>?_
    conv=>whnf
    refine ⟨_,cs,scl2,?_⟩
    refine hT _ _ ?_
    iterate 6 (refine aops_step fun T S hT hS=>?_; (conv=>whnf); refine hT _ _ ?_)
    refine aops_end ?_
    refine hK _ _ ?_
    clear hK hR
    refine swp_cut fun K hK hR _=>?_
    refine swp_cut fun K2 hK2 hR2 _=>?_
    iterate 10 (refine aops_step fun T S hT hS=>?_; (conv=>whnf); refine hT _ _ ?_)
    refine aops_end ?_
    refine hK2 _ _ ?_
    conv=>whnf
    refine hR _ _ ?_
    conv=>whnf
    intro c N8 _ _
    rfl
   | true=>
    have er:r=r1:=hrp rfl
    have ez:z=z2:=hrn rfl
    subst er
    subst ez
    have hT:∀ t∈[Trm.mk z gx gy gb,Trm.mk (-e%nn) x y false],t.In:=fun t ht=>by
     simp only [List.mem_cons,List.not_mem_nil,or_false] at ht
     rcases ht with rfl | rfl
     ·exact ⟨i2,igx,igy⟩
     ·exact ⟨ine,ik,il⟩
    have em:msum [Trm.mk z gx gy gb,Trm.mk (-e%nn) x y false]=vfP z e x y:=by
     show add (add none (smul z.toNat (tkn gx gy gb))) (smul (-e%nn).toNat (tkn x y false))=_
     rw [tg,none_add fld _ (smul_on fld _ gP_on _)]
     rfl
    have hTs:=hT
    clear hT
    have cm:=fun (B:Base) (q:TV) (hs:Sl B 13 q ([Trm.mk z gx gy gb,Trm.mk (-e%nn) x y false].map Trm.cells))=>multi_hc hs hTs
    have on:=msum_on hTs
    rw [em] at cm on
    generalize vfP z e x y=R at *
    match R,on with
    | none,_=>
     have cm:∀ (B:Base) (q:TV) (_:Sl B 13 q ([Trm.mk z gx gy gb,Trm.mk (-e%nn) x y false].map Trm.cells)),HC PG B f_curve_Multi [q] fun v _=>v=ptV 0 0 true:=cm
     refine swp_cut fun K hK hR _=>?_
     conv=>whnf
     refine hK _ _ ?_
     clear hK hR
     refine swp_cut fun K hK hR _=>?_
     refine aops_step fun T S hT hS=>?_
     conv=>whnf
     conv in (takeAt _ _ _)=>change takeAt (u8s key) 0 32; rw [tk]
     conv=>whnf
     refine hT _ _ ?_
     refine aops_step fun T S hT hS=>?_
     conv=>whnf
     refine ⟨_,cl,kcl,?_⟩
     refine hT _ _ ?_
     iterate 6 (refine aops_step fun T S hT hS=>?_; (conv=>whnf); refine hT _ _ ?_)
     refine aops_end ?_
     refine hK _ _ ?_
     clear hK hR
     refine swp_cut fun K hK hR _=>?_
     iterate 2 (refine aops_step fun T S hT hS=>?_; (conv=>whnf); refine hT _ _ ?_)
     refine aops_step fun T S hT hS=>?_
     conv=>whnf
     conv in (takeAt _ _ _)=>change takeAt (u8s (S1++S2)) 0 32; rw [ts1]
     conv=>whnf
     refine hT _ _ ?_
     refine aops_step fun T S hT hS=>?_
     conv=>whnf
     refine ⟨_,cr,scl1,?_⟩
     refine hT _ _ ?_
     iterate 6 (refine aops_step fun T S hT hS=>?_; (conv=>whnf); refine hT _ _ ?_)
     refine aops_end ?_
     refine hK _ _ ?_
     clear hK hR
     refine swp_cut fun K hK hR _=>?_
     iterate 2 (refine aops_step fun T S hT hS=>?_; (conv=>whnf); refine hT _ _ ?_)
     refine aops_step fun T S hT hS=>?_
     conv=>whnf
     conv in (takeAt _ _ _)=>change takeAt (u8s (S1++S2)) 32 32; rw [ts2]
     conv=>whnf
     refine hT _ _ ?_
     refine aops_step fun T S hT hS=>?_
     conv=>whnf
     refine ⟨_,cs,scl2,?_⟩
     refine hT _ _ ?_
     iterate 6 (refine aops_step fun T S hT hS=>?_; (conv=>whnf); refine hT _ _ ?_)
     refine aops_end ?_
     refine hK _ _ ?_
     clear hK hR
     refine swp_cut fun K hK hR _=>?_
     refine swp_cut fun K2 hK2 hR2 _=>?_
     iterate 10 (refine aops_step fun T S hT hS=>?_; (conv=>whnf); refine hT _ _ ?_)
     refine aops_end ?_
     refine hK2 _ _ ?_
     clear hK2 hR2
     conv=>whnf
     refine hK _ _ ?_
     clear hK hR
     refine swp_cut fun K hK hR _=>?_
     iterate 4 (refine aops_step fun T S hT hS=>?_; (conv=>whnf); refine hT _ _ ?_)
     refine aops_step fun T S hT hS=>?_
     conv=>whnf
     refine ⟨fun v _=>v=W e,fun c B hB hL=>by
      show HC PG B f_sig_reduced [.one (.str nmCha),.one (.slice (some (.ext ⟨c.ι 5,0,none⟩)) 3 3)] _
      exact cC B (fun r o h=>hB r o (.inl h)) (half_lent (b0:=1) (b1:=0) (b2:=5) (D2:=S2) hL rfl rfl rfl h1 hk (hX.mono (fun r o h=>hB r o (.inl h)))),⟨_,B0,rfl,rfl⟩,?_⟩
     rintro v N' _ rfl N1 _
     refine hT _ _ ?_
     iterate 2 (refine aops_step fun T S hT hS=>?_; (conv=>whnf); refine hT _ _ ?_)
     refine aops_end ?_
     refine hK _ _ ?_
     clear hK hR
     refine swp_cut fun K hK hR _=>?_
     refine aops_step fun T S hT hS=>?_
     conv=>whnf
     refine hT _ _ ?_
     refine aops_step fun T S hT hS=>?_
     conv=>whnf
     refine ⟨_,cb,rfl,?_⟩
     refine hT _ _ ?_
     iterate 2 (refine aops_step fun T S hT hS=>?_; (conv=>whnf); refine hT _ _ ?_)
     refine aops_step fun T S hT hS=>?_
     conv=>whnf
     refine ⟨_,cn,rfl,?_⟩
     refine hT _ _ ?_
     iterate 3 (refine aops_step fun T S hT hS=>?_; (conv=>whnf); refine hT _ _ ?_)
     refine aops_step fun T S hT hS=>?_
     conv=>whnf
     refine ⟨fun v _=>v=ptV 0 0 true,fun c B hB hL=>cm B _ (sl_lent (b:=7) (o:=0) (L:=[Trm.mk z gx gy gb,Trm.mk (-e%nn) x y false].map Trm.cells) (post:=[]) hL rfl rfl rfl rfl (Nat.le_refl 2) (by show 2≤140737488355128; omega) (fun y hy=>by
      obtain ⟨t,_,rfl⟩:=List.mem_map.1 hy
      rfl)),⟨_,B0,rfl,rfl⟩,?_⟩
     rintro v N' _ rfl N1 _
     refine hT _ _ ?_
     iterate 2 (refine aops_step fun T S hT hS=>?_; (conv=>whnf); refine hT _ _ ?_)
     refine aops_end ?_
     refine hK _ _ ?_
     clear hK hR
     refine swp_cut fun K hK hR _=>?_
     iterate 4 (refine aops_step fun T S hT hS=>?_; (conv=>whnf); refine hT _ _ ?_)
     iterate 4 (refine aops_step fun T S hT hS=>?_; (conv=>whnf); refine hS ?_)
     iterate 2 (refine aops_step fun T S hT hS=>?_; (conv=>whnf); refine hT _ _ ?_)
     iterate 4 (refine aops_step fun T S hT hS=>?_; (conv=>whnf); refine hS ?_)
     iterate 2 (refine aops_step fun T S hT hS=>?_; (conv=>whnf); refine hT _ _ ?_)
     refine aops_end ?_
     refine hK _ _ ?_
     conv=>whnf
     intro c N8 _ _
     rfl
    | some (a,c),on=>
     have cm:∀ (B:Base) (q:TV) (_:Sl B 13 q ([Trm.mk z gx gy gb,Trm.mk (-e%nn) x y false].map Trm.cells)),HC PG B f_curve_Multi [q] fun v _=>v=ptV (vK a) (vK c) false:=cm
     have co:=feOdd_fn (vK_in c)
     rw [vK_mod] at co
     have wq:=weq (vK_in a) i1
     show swpC _ _ (post _ _ fun v m=>∀ c0 N1,Base.le m.N N1→Lent c0 N1 m.bs→TV.ext c0 v=.one (.bool (match decide (vK c%2=1) with | true=>false | false=>decide (vK a=r)))) _ _
     obtain ⟨od,hod⟩:∃ o,decide (vK c%2=1)=o:=⟨_,rfl⟩
     obtain ⟨ex,hex⟩:∃ o,decide (vK a=r)=o:=⟨_,rfl⟩
     rw [hod] at co ⊢
     rw [hex] at wq ⊢
     generalize vK c=yc at *
     generalize vK a=xa at *
     refine swp_cut fun K hK hR _=>?_
     conv=>whnf
     refine hK _ _ ?_
     clear hK hR
     refine swp_cut fun K hK hR _=>?_
     refine aops_step fun T S hT hS=>?_
     conv=>whnf
     conv in (takeAt _ _ _)=>change takeAt (u8s key) 0 32; rw [tk]
     conv=>whnf
     refine hT _ _ ?_
     refine aops_step fun T S hT hS=>?_
     conv=>whnf
     refine ⟨_,cl,kcl,?_⟩
     refine hT _ _ ?_
     iterate 6 (refine aops_step fun T S hT hS=>?_; (conv=>whnf); refine hT _ _ ?_)
     refine aops_end ?_
     refine hK _ _ ?_
     clear hK hR
     refine swp_cut fun K hK hR _=>?_
     iterate 2 (refine aops_step fun T S hT hS=>?_; (conv=>whnf); refine hT _ _ ?_)
     refine aops_step fun T S hT hS=>?_
     conv=>whnf
     conv in (takeAt _ _ _)=>change takeAt (u8s (S1++S2)) 0 32; rw [ts1]
     conv=>whnf
     refine hT _ _ ?_
     refine aops_step fun T S hT hS=>?_
     conv=>whnf
     refine ⟨_,cr,scl1,?_⟩
     refine hT _ _ ?_
     iterate 6 (refine aops_step fun T S hT hS=>?_; (conv=>whnf); refine hT _ _ ?_)
     refine aops_end ?_
     refine hK _ _ ?_
     clear hK hR
     refine swp_cut fun K hK hR _=>?_
     iterate 2 (refine aops_step fun T S hT hS=>?_; (conv=>whnf); refine hT _ _ ?_)
     refine aops_step fun T S hT hS=>?_
     conv=>whnf
     conv in (takeAt _ _ _)=>change takeAt (u8s (S1++S2)) 32 32; rw [ts2]
     conv=>whnf
     refine hT _ _ ?_
     refine aops_step fun T S hT hS=>?_
     conv=>whnf
     refine ⟨_,cs,scl2,?_⟩
     refine hT _ _ ?_
     iterate 6 (refine aops_step fun T S hT hS=>?_; (conv=>whnf); refine hT _ _ ?_)
     refine aops_end ?_
     refine hK _ _ ?_
     clear hK hR
     refine swp_cut fun K hK hR _=>?_
     refine swp_cut fun K2 hK2 hR2 _=>?_
     iterate 10 (refine aops_step fun T S hT hS=>?_; (conv=>whnf); refine hT _ _ ?_)
     refine aops_end ?_
     refine hK2 _ _ ?_
     clear hK2 hR2
     conv=>whnf
     refine hK _ _ ?_
     clear hK hR
     refine swp_cut fun K hK hR _=>?_
     iterate 4 (refine aops_step fun T S hT hS=>?_; (conv=>whnf); refine hT _ _ ?_)
     refine aops_step fun T S hT hS=>?_
     conv=>whnf
     refine ⟨fun v _=>v=W e,fun c B hB hL=>by
      show HC PG B f_sig_reduced [.one (.str nmCha),.one (.slice (some (.ext ⟨c.ι 5,0,none⟩)) 3 3)] _
      exact cC B (fun r o h=>hB r o (.inl h)) (half_lent (b0:=1) (b1:=0) (b2:=5) (D2:=S2) hL rfl rfl rfl h1 hk (hX.mono (fun r o h=>hB r o (.inl h)))),⟨_,B0,rfl,rfl⟩,?_⟩
     rintro v N' _ rfl N1 _
     refine hT _ _ ?_
     iterate 2 (refine aops_step fun T S hT hS=>?_; (conv=>whnf); refine hT _ _ ?_)
     refine aops_end ?_
     refine hK _ _ ?_
     clear hK hR
     refine swp_cut fun K hK hR _=>?_
     refine aops_step fun T S hT hS=>?_
     conv=>whnf
     refine hT _ _ ?_
     refine aops_step fun T S hT hS=>?_
     conv=>whnf
     refine ⟨_,cb,rfl,?_⟩
     refine hT _ _ ?_
     iterate 2 (refine aops_step fun T S hT hS=>?_; (conv=>whnf); refine hT _ _ ?_)
     refine aops_step fun T S hT hS=>?_
     conv=>whnf
     refine ⟨_,cn,rfl,?_⟩
     refine hT _ _ ?_
     iterate 3 (refine aops_step fun T S hT hS=>?_; (conv=>whnf); refine hT _ _ ?_)
     refine aops_step fun T S hT hS=>?_
     conv=>whnf
     refine ⟨fun v _=>v=ptV xa yc false,fun c B hB hL=>cm B _ (sl_lent (b:=7) (o:=0) (L:=[Trm.mk z gx gy gb,Trm.mk (-e%nn) x y false].map Trm.cells) (post:=[]) hL rfl rfl rfl rfl (Nat.le_refl 2) (by show 2≤140737488355128; omega) (fun y hy=>by
      obtain ⟨t,_,rfl⟩:=List.mem_map.1 hy
      rfl)),⟨_,B0,rfl,rfl⟩,?_⟩
     rintro v N' _ rfl N1 _
     refine hT _ _ ?_
     iterate 2 (refine aops_step fun T S hT hS=>?_; (conv=>whnf); refine hT _ _ ?_)
     refine aops_end ?_
     refine hK _ _ ?_
     clear hK hR
     refine swp_cut fun K hK hR _=>?_
     iterate 6 (refine aops_step fun T S hT hS=>?_; (conv=>whnf); refine hT _ _ ?_)
     refine aops_step fun T S hT hS=>?_
     conv=>whnf
     refine ⟨_,co,rfl,?_⟩
     refine hT _ _ ?_
     cases od with
     | false=>
      iterate 6 (refine aops_step fun T S hT hS=>?_; (conv=>whnf); refine hT _ _ ?_)
      refine aops_step fun T S hT hS=>?_
      conv=>whnf
      rw [wq]
      refine hT _ _ ?_
      iterate 2 (refine aops_step fun T S hT hS=>?_; (conv=>whnf); refine hT _ _ ?_)
      refine aops_end ?_
      refine hK _ _ ?_
      conv=>whnf
      intro c N8 _ _
      rfl
     | true=>
      iterate 3 (refine aops_step fun T S hT hS=>?_; (conv=>whnf); refine hT _ _ ?_)
      iterate 4 (refine aops_step fun T S hT hS=>?_; (conv=>whnf); refine hS ?_)
      iterate 2 (refine aops_step fun T S hT hS=>?_; (conv=>whnf); refine hT _ _ ?_)
      refine aops_end ?_
      refine hK _ _ ?_
      conv=>whnf
      intro c N8 _ _
      rfl

end Go.Hv

namespace Go.Hv
open Go.Ev Go.Ec

theorem nn_pos:(0:Int)<nn:=by unfold nn; omega

noncomputable def M (P:Pt PPn) (x:Int):Pt PPn:=smul (x%nn).toNat P

theorem M_on {P:Pt PPn} (h:On P) (x:Int):On (M P x):=smul_on fld P h _
theorem M_nat {P:Pt PPn} (h:On P) {x:Int} (hx:0≤x):M P x=smul x.toNat P:=smul_modI h hx
theorem M_congr {P:Pt PPn} {x y:Int} (h:x%nn=y%nn):M P x=M P y:=by unfold M; rw [h]
theorem M_add {P:Pt PPn} (h:On P) (x y:Int):add (M P x) (M P y)=M P (x+y):=by
 have hx:=Int.emod_nonneg x (Int.ne_of_gt nn_pos)
 have hy:=Int.emod_nonneg y (Int.ne_of_gt nn_pos)
 have e:M P (x+y)=M P (x%nn+y%nn):=M_congr (by rw [← Int.add_emod])
 rw [e,M_nat h (Int.add_nonneg hx hy),Int.toNat_add hx hy,smul_add fld P h]
 rfl
theorem M_zero (P:Pt PPn):M P 0=none:=by
 unfold M
 rw [Int.zero_emod]
 rfl
theorem M_neg {P:Pt PPn} (h:On P) (x:Int):M P (-x)=neg (M P x):=by
 have h1:=M_add h x (-x)
 rw [Int.add_right_neg,M_zero] at h1
 have on:=M_on h x
 have on2:=M_on h (-x)
 have e1:add (add (neg (M P x)) (M P x)) (M P (-x))=M P (-x):=by
  rw [add_comm (neg (M P x)),add_neg fld _ on,none_add fld _ on2]
 rw [← e1,add_assoc fld _ _ _ (neg_on _ on) on on2,h1,add_none fld _ (neg_on _ on)]
theorem M_mul {P:Pt PPn} (h:On P) (x y:Int):M (M P x) y=M P (x*y):=by
 have hx:=Int.emod_nonneg x (Int.ne_of_gt nn_pos)
 have hy:=Int.emod_nonneg y (Int.ne_of_gt nn_pos)
 have e:M P (x*y)=M P (x%nn*(y%nn)):=M_congr (by rw [← Int.mul_emod])
 rw [e,M_nat h (Int.mul_nonneg hx hy),Int.toNat_mul hx hy,smul_mul fld P h]
 rfl

theorem prV_M {s d:Int} {a c:KK} (hs:0≤s) (h:prV s=some (d,a,c)):M gP d=some (a,c):=by
 unfold prV at h
 rw [← M_nat gP_on hs] at h
 cases hP:M gP s with
 | none=>rw [hP] at h; cases h
 | some ac=>
  obtain ⟨a',c'⟩:=ac
  rw [hP] at h
  simp only at h
  cases hd:decide (vK c'%2=1) with
  | true=>
   rw [hd] at h
   simp only [Option.some.injEq,Prod.mk.injEq] at h
   obtain ⟨rfl,rfl,rfl⟩:=h
   have e:M gP (-(s%nn)%nn)=M gP (-s):=M_congr (by
    rw [Int.emod_emod_of_dvd _ (Int.dvd_refl nn)]
    have h1:(-(s%nn)-(-s))%nn=0:=by
     rw [show -(s%nn) - -s=s-s%nn by omega]
     exact Int.emod_eq_zero_of_dvd (Int.dvd_self_sub_emod)
    exact Int.emod_eq_emod_iff_emod_sub_eq_zero.2 h1)
   rw [e,M_neg gP_on,hP]
   rfl
  | false=>
   rw [hd] at h
   simp only [Option.some.injEq,Prod.mk.injEq] at h
   obtain ⟨rfl,rfl,rfl⟩:=h
   rw [← hP]
   exact M_congr (Int.emod_emod_of_dvd _ (Int.dvd_refl nn))

theorem neg_lt {y:Int} (h0:0<y) (h1:y<pp) : -y%pp=pp-y:=by unfold pp at *; omega
theorem odd_sub {r y:Int} (hc:y%2=0) (h3:r%2=0) (h2:r=pp-y):False:=by unfold pp at *; omega
theorem even_arith {r y:Int} (h0:0≤y) (h1:y<pp) (hc:y%2=0) (h3:r%2=0) (h2:r=y%pp∨r = -y%pp):r=y:=by
 rcases h2 with h2 | h2
 ·rw [h2,Int.emod_eq_of_lt h0 h1]
 ·by_cases hy:y=0
  ·subst hy
   rw [h2]
   rfl
  ·rw [neg_lt (by omega) h1] at h2
   exact (odd_sub hc h3 h2).elim
theorem sq_even {y:Int} (h0:0≤y∧y<pp) (hc:y%2=0):(sqrtP (y*y%pp)).1=y∧(sqrtP (y*y%pp)).2=true:=by
 have h1:=sqrtP_of_sq y
 have h2:=sqrtP_pm y
 have h3:=sqrtP_even (y*y%pp)
 rw [sqrtP_lt] at h3
 exact ⟨even_arith h0.1 h0.2 hc h3 h2,h1⟩
theorem lift_even {a c:KK} (h:On (some (a,c))) (hc:vK c%2=0):liftR (vK a)=(vK c,true):=by
 have hx:decide (vK a%pp=vK a)=true:=decide_eq_true (vK_mod a)
 have hy:vK (toK (vK a)*toK (vK a)*toK (vK a)+7)=vK c*vK c%pp:=by
  rw [toK_vK,mulK]
  have h2:c*c=a*a*a+7:=h
  rw [h2]
 have e0:liftR (vK a)=sqrtP (vK c*vK c%pp):=by unfold liftR; rw [hx,hy]
 obtain ⟨h1,h2⟩:=sq_even (vK_lt c) hc
 rw [e0]
 exact Prod.ext h1 h2

theorem readP_vK (a:KK):readP (vK a)=(vK a,true):=by unfold readP; rw [if_pos (vK_mod a)]
theorem readN_lt {z:Int}:readN (z%nn)=(z%nn,true):=by unfold readN; rw [if_pos (Int.emod_emod_of_dvd _ (Int.dvd_refl nn))]

theorem modn_in (z:Int):InW (z%nn):=by unfold nn; exact ⟨by omega,by omega⟩

theorem back_ok {s d:Int} {a c:KK} {X S:List Int} (hs:0≤s) (hp:prV s=some (d,a,c)) (h:sgV s X=some S):∃ S1 S2,S=S1++S2∧S1.length=32∧S2.length=32∧(∀ z∈S1,0≤z∧z<256)∧(∀ z∈S2,0≤z∧z<256)∧vfV (byt (vK a)) S1 S2 X=true:=by
 obtain ⟨id_,dm,on,hev⟩:=prV_in hp
 have hM:=prV_M hs hp
 have e1:sgV s X=sg2 d (vK a) X:=by unfold sgV; rw [hp]
 rw [e1] at h
 unfold sg2 at h
 have ik:=redN_in nmNon [xorL (byt d) (tagD nmAux [zD32]),byt (vK a),X]
 generalize redN nmNon [xorL (byt d) (tagD nmAux [zD32]),byt (vK a),X]=k0 at *
 cases hp2:prV k0 with
 | none=>rw [hp2] at h; cases h
 | some krr=>
  obtain ⟨k,r,ry⟩:=krr
  rw [hp2] at h
  obtain ⟨ikk,km,onr,hevr⟩:=prV_in hp2
  have hMk:=prV_M ik.1 hp2
  simp only [Option.some.injEq] at h
  subst h
  unfold sg3
  generalize he:redN nmCha [byt (vK r),byt (vK a),X]=e at *
  refine ⟨byt (vK r),byt ((k+e*d%nn)%nn),rfl,byt_len _,byt_len _,byt_u8 _,byt_u8 _,?_⟩
  unfold vfV
  rw [he,num_byt (vK_in a),num_byt (vK_in r),num_byt (modn_in _),lift_even on hev,readP_vK,readN_lt]
  show vfR (vK r) (vfP _ e (vK a) (vK c))=true
  have hR:vfP ((k+e*d%nn)%nn) e (vK a) (vK c)=some (r,ry):=by
   unfold vfP
   rw [tkn_pt on,← hM]
   have h1:smul ((k+e*d%nn)%nn).toNat gP=M gP (k+e*d%nn):=rfl
   have h2:smul (-e%nn).toNat (M gP d)=M (M gP d) (-e):=rfl
   rw [h1,h2,M_mul gP_on,M_add gP_on,← hMk]
   refine M_congr ?_
   have h3:(k+e*d%nn+d * -e-k)%nn=0:=by
    rw [show k+e*d%nn+d * -e-k = -(e*d-e*d%nn) by
     rw [Int.mul_neg,Int.mul_comm d e]
     omega]
    exact Int.emod_eq_zero_of_dvd (Int.dvd_neg.2 Int.dvd_self_sub_emod)
   exact Int.emod_eq_emod_iff_emod_sub_eq_zero.2 h3
  rw [hR]
  show (match decide (vK ry%2=1) with | true=>false | false=>decide (vK r=vK r))=true
  rw [show decide (vK ry%2=1)=false from decide_eq_false (by omega)]
  simp

end Go.Hv

namespace Go.Hv
open Go.Ev Go.Ec

theorem vK_kn {n:Nat} (h:n<PPn):vK (kn n)=(n:Int):=by
 unfold kn
 rw [vK_toK,pp_PPn]
 exact Int.emod_eq_of_lt (Int.natCast_nonneg n) (Int.ofNat_lt.2 h)

theorem known_aux:tagD nmAux [zD32]=zi [84,241,105,207,201,226,229,114,116,128,68,31,144,186,37,196,136,244,97,199,11,94,165,220,170,247,175,105,39,10,165,20]:=by
 have e:nmB nmAux=zi [66,73,80,48,51,52,48,47,97,117,120]:=by kernel_rfl
 have h0:shaD (nmB nmAux)=zi [241,239,78,94,192,99,202,218,109,148,202,250,157,152,126,160,105,38,88,57,236,193,31,151,45,119,165,46,216,193,204,144]:=by rw [e]; exact sv_aux0
 have e2:tagY (zi [241,239,78,94,192,99,202,218,109,148,202,250,157,152,126,160,105,38,88,57,236,193,31,151,45,119,165,46,216,193,204,144]) [zD32] [zD32].length=zi [241,239,78,94,192,99,202,218,109,148,202,250,157,152,126,160,105,38,88,57,236,193,31,151,45,119,165,46,216,193,204,144,241,239,78,94,192,99,202,218,109,148,202,250,157,152,126,160,105,38,88,57,236,193,31,151,45,119,165,46,216,193,204,144,0,0,0,0,0,0,0,0,0,0,0,0,0,0,0,0,0,0,0,0,0,0,0,0,0,0,0,0,0,0,0,0]:=by kernel_rfl
 unfold tagD
 rw [h0,e2]
 exact sv_aux

theorem known_xor:xorL (byt 3) (zi [84,241,105,207,201,226,229,114,116,128,68,31,144,186,37,196,136,244,97,199,11,94,165,220,170,247,175,105,39,10,165,20])=zi [84,241,105,207,201,226,229,114,116,128,68,31,144,186,37,196,136,244,97,199,11,94,165,220,170,247,175,105,39,10,165,23]:=by kernel_rfl

theorem known_non:redN nmNon [zi [84,241,105,207,201,226,229,114,116,128,68,31,144,186,37,196,136,244,97,199,11,94,165,220,170,247,175,105,39,10,165,23],byt 112711660439710606056748659173929673102114977341539408544630613555209775888121,zD32]=13197915491876976259551408334663313131887465579707439106007590226688883891305:=by
 have e:nmB nmNon=zi [66,73,80,48,51,52,48,47,110,111,110,99,101]:=by kernel_rfl
 have h0:shaD (nmB nmNon)=zi [7,73,119,52,167,155,203,53,91,155,140,125,3,79,18,28,244,52,215,62,247,45,218,25,135,0,97,251,82,191,235,47]:=by rw [e]; exact sv_non0
 have e2:tagY (zi [7,73,119,52,167,155,203,53,91,155,140,125,3,79,18,28,244,52,215,62,247,45,218,25,135,0,97,251,82,191,235,47]) [zi [84,241,105,207,201,226,229,114,116,128,68,31,144,186,37,196,136,244,97,199,11,94,165,220,170,247,175,105,39,10,165,23],byt 112711660439710606056748659173929673102114977341539408544630613555209775888121,zD32] [zi [84,241,105,207,201,226,229,114,116,128,68,31,144,186,37,196,136,244,97,199,11,94,165,220,170,247,175,105,39,10,165,23],byt 112711660439710606056748659173929673102114977341539408544630613555209775888121,zD32].length=zi [7,73,119,52,167,155,203,53,91,155,140,125,3,79,18,28,244,52,215,62,247,45,218,25,135,0,97,251,82,191,235,47,7,73,119,52,167,155,203,53,91,155,140,125,3,79,18,28,244,52,215,62,247,45,218,25,135,0,97,251,82,191,235,47,84,241,105,207,201,226,229,114,116,128,68,31,144,186,37,196,136,244,97,199,11,94,165,220,170,247,175,105,39,10,165,23,249,48,138,1,146,88,195,16,73,52,79,133,248,157,82,41,181,49,200,69,131,111,153,176,134,1,241,19,188,224,54,249,0,0,0,0,0,0,0,0,0,0,0,0,0,0,0,0,0,0,0,0,0,0,0,0,0,0,0,0,0,0,0,0]:=by kernel_rfl
 have e3:tagD nmNon [zi [84,241,105,207,201,226,229,114,116,128,68,31,144,186,37,196,136,244,97,199,11,94,165,220,170,247,175,105,39,10,165,23],byt 112711660439710606056748659173929673102114977341539408544630613555209775888121,zD32]=zi [29,45,193,101,47,238,58,208,132,52,70,159,154,211,5,54,165,120,127,236,207,163,8,232,251,57,108,128,48,221,28,105]:=by
  unfold tagD
  rw [h0,e2]
  exact sv_non
 have e4:numB (zi [29,45,193,101,47,238,58,208,132,52,70,159,154,211,5,54,165,120,127,236,207,163,8,232,251,57,108,128,48,221,28,105])%nn=13197915491876976259551408334663313131887465579707439106007590226688883891305:=by kernel_rfl
 unfold redN
 rw [e3]
 exact e4

theorem known_cha:redN nmCha [byt 105402166627418795092072804961744245450567089294823101265006251985280030114325,byt 112711660439710606056748659173929673102114977341539408544630613555209775888121,zD32]=48720319366320448218248931228309816100339060958010591740548832691369990260430:=by
 have e:nmB nmCha=zi [66,73,80,48,51,52,48,47,99,104,97,108,108,101,110,103,101]:=by kernel_rfl
 have h0:shaD (nmB nmCha)=zi [123,181,45,122,159,239,88,50,62,177,191,122,64,125,179,130,210,243,242,216,27,177,34,79,73,254,81,143,109,72,211,124]:=by rw [e]; exact sv_cha0
 have e2:tagY (zi [123,181,45,122,159,239,88,50,62,177,191,122,64,125,179,130,210,243,242,216,27,177,34,79,73,254,81,143,109,72,211,124]) [byt 105402166627418795092072804961744245450567089294823101265006251985280030114325,byt 112711660439710606056748659173929673102114977341539408544630613555209775888121,zD32] [byt 105402166627418795092072804961744245450567089294823101265006251985280030114325,byt 112711660439710606056748659173929673102114977341539408544630613555209775888121,zD32].length=zi [123,181,45,122,159,239,88,50,62,177,191,122,64,125,179,130,210,243,242,216,27,177,34,79,73,254,81,143,109,72,211,124,123,181,45,122,159,239,88,50,62,177,191,122,64,125,179,130,210,243,242,216,27,177,34,79,73,254,81,143,109,72,211,124,233,7,131,31,128,132,141,16,105,165,55,27,64,36,16,54,75,223,28,95,131,7,176,8,76,85,241,206,45,202,130,21,249,48,138,1,146,88,195,16,73,52,79,133,248,157,82,41,181,49,200,69,131,111,153,176,134,1,241,19,188,224,54,249,0,0,0,0,0,0,0,0,0,0,0,0,0,0,0,0,0,0,0,0,0,0,0,0,0,0,0,0,0,0,0,0]:=by kernel_rfl
 have e3:tagD nmCha [byt 105402166627418795092072804961744245450567089294823101265006251985280030114325,byt 112711660439710606056748659173929673102114977341539408544630613555209775888121,zD32]=zi [107,182,185,58,145,242,236,192,205,146,79,79,155,170,187,94,110,178,23,69,187,0,242,206,189,170,201,8,187,93,134,206]:=by
  unfold tagD
  rw [h0,e2]
  exact sv_cha
 have e4:numB (zi [107,182,185,58,145,242,236,192,205,146,79,79,155,170,187,94,110,178,23,69,187,0,242,206,189,170,201,8,187,93,134,206])%nn=48720319366320448218248931228309816100339060958010591740548832691369990260430:=by kernel_rfl
 unfold redN
 rw [e3]
 exact e4

theorem prV_of {s:Int} {a c:KK} (h:smul s.toNat gP=some (a,c)) (od:Bool) (ho:decide (vK c%2=1)=od):prV s=match od with
  | true=>some (-(s%nn)%nn,a,-c)
  | false=>some (s%nn,a,c):=by
 unfold prV
 rw [h]
 cases od<;>simp only [ho]

theorem par_kn {n:Nat} (h:n<PPn) (b:Bool) (hb:Nat.beq (n%2) 1=b):decide (vK (kn n)%2=1)=b:=by
 rw [vK_kn h,← hb]
 cases hq:Nat.beq (n%2) 1 with
 | true=>
  have:=Nat.eq_of_beq_eq_true hq
  exact decide_eq_true (by omega)
 | false=>
  refine decide_eq_false fun e=>?_
  have:n%2=1:=by omega
  rw [this] at hq
  cases hq

theorem known_px:vK (kn 112711660439710606056748659173929673102114977341539408544630613555209775888121)=112711660439710606056748659173929673102114977341539408544630613555209775888121:=by rw [vK_kn (by decide)]; kernel_rfl
theorem known_rx:vK (kn 105402166627418795092072804961744245450567089294823101265006251985280030114325)=105402166627418795092072804961744245450567089294823101265006251985280030114325:=by rw [vK_kn (by decide)]; kernel_rfl
theorem three_n:(3:Int)%nn=3:=by kernel_rfl
theorem k_n : -((13197915491876976259551408334663313131887465579707439106007590226688883891305:Int)%nn)%nn=102594173745439219164019576674024594720950098699367465276597572914829277603032:=by kernel_rfl

theorem known_P {s:Int} (hs:s=3):prV s=some (3,kn 112711660439710606056748659173929673102114977341539408544630613555209775888121,kn 25583027980570883691656905877401976406448868254816295069919888960541586679410):=by
 rw [prV_of (sv_P (k:=s.toNat) (by rw [hs]; rfl)) false (par_kn (by decide) false (by kernel_rfl)),hs]
 show some ((3:Int)%nn,_,_)=_
 rw [three_n]

theorem known_R {s:Int} (hs:s=13197915491876976259551408334663313131887465579707439106007590226688883891305):prV s=some (102594173745439219164019576674024594720950098699367465276597572914829277603032,kn 105402166627418795092072804961744245450567089294823101265006251985280030114325,-kn 59979214474319322165094783228164233363219353906398054566988269642334758084391):=by
 rw [prV_of (sv_R (k:=s.toNat) (by rw [hs]; rfl)) true (par_kn (by decide) true (by kernel_rfl)),hs]
 show some (-((13197915491876976259551408334663313131887465579707439106007590226688883891305:Int)%nn)%nn,_,_)=_
 rw [k_n]

def svS:List Int:=[233,7,131,31,128,132,141,16,105,165,55,27,64,36,16,54,75,223,28,95,131,7,176,8,76,85,241,206,45,202,130,21,37,246,106,74,133,234,139,113,228,130,167,79,56,45,44,229,235,238,232,253,178,23,47,71,125,244,144,13,49,5,54,192]

theorem known_3:sg3 3 112711660439710606056748659173929673102114977341539408544630613555209775888121 105402166627418795092072804961744245450567089294823101265006251985280030114325 102594173745439219164019576674024594720950098699367465276597572914829277603032 zD32=svS:=by
 unfold sg3
 rw [known_cha]
 kernel_rfl

theorem sg2_of {d xa k0 k:Int} {r ry:KK} {X:List Int} (h1:redN nmNon [xorL (byt d) (tagD nmAux [zD32]),byt xa,X]=k0) (h2:prV k0=some (k,r,ry)):sg2 d xa X=some (sg3 d xa (vK r) k X):=by
 unfold sg2
 rw [h1,h2]

theorem sgV_of {s d:Int} {a c:KK} {X:List Int} (h:prV s=some (d,a,c)):sgV s X=sg2 d (vK a) X:=by
 unfold sgV
 rw [h]

theorem known_k:redN nmNon [xorL (byt 3) (tagD nmAux [zD32]),byt 112711660439710606056748659173929673102114977341539408544630613555209775888121,zD32]=13197915491876976259551408334663313131887465579707439106007590226688883891305:=by
 rw [known_aux,known_xor]
 exact known_non

theorem known_2:sg2 3 112711660439710606056748659173929673102114977341539408544630613555209775888121 zD32=some svS:=by
 rw [sg2_of known_k (known_R rfl),known_rx,known_3]

theorem known_sig {s:Int} (hs:s=3):sgV s zD32=some svS:=by
 rw [sgV_of (known_P hs),known_px]
 exact known_2

end Go.Hv

namespace Go.Hv
open Go.Ev Go.Ec

set_option maxHeartbeats 1000000 in
set_option maxRecDepth 100000 in
theorem alive6_hc {A:Base} (hTb:Tab A):HC PG A f_law06_alive [] fun v _=>v=.one (.bool true):=by
 refine hc_start (fun _=>none) h_law06_alive rfl (by kernel_rfl) (by kernel_rfl) rfl ?_
 have h3:InW 3:=⟨by omega,by omega⟩
 have cP:=public_fn (s:=3) h3
 rw [known_P rfl] at cP
 obtain ⟨S1,S2,e12,l1,l2,b1,b2,hv⟩:=back_ok (s:=3) (X:=zD32) (by omega) (known_P rfl) (known_sig rfl)
 have cS:=fun (B:Base) (hB:Base.le A B) {p:Option SP} {cap:Nat} (hX:Sl B 1 (.one (.slice p zD32.length cap)) (ones (u8s zD32)))=>sign_hc (A:=B) (s:=3) (ERead_le hB hTb) h3 hX
 rw [known_sig rfl] at cS
 have cP:Ev.Fn PG f_sig_Public [W 3] (.tup [.agg (u8s (byt (vK (kn 112711660439710606056748659173929673102114977341539408544630613555209775888121)))),.one (.bool true)]):=cP
 rw [known_px] at cP hv
 have cV:=fun (B:Base) (hB:Base.le A B) {p:Option SP} {cap:Nat} (hX:Sl B 1 (.one (.slice p zD32.length cap)) (ones (u8s zD32)))=>verify_hc (A:=B) (ERead_le hB hTb) (byt_len 112711660439710606056748659173929673102114977341539408544630613555209775888121) (byt_u8 112711660439710606056748659173929673102114977341539408544630613555209775888121) l1 b1 l2 b2 hX
 rw [hv,← e12] at cV
 generalize hkey:byt 112711660439710606056748659173929673102114977341539408544630613555209775888121=key at *
 have kl:key.length=32:=by rw [← hkey]; exact byt_len _
 have tk:takeAt (u8s key) 0 32=some (u8s key):=by
  have:=takeAt_app [] (u8s key) []
  rw [List.append_nil,List.length_map,kl] at this
  exact this
 have tkl:Nat.beq 32 (u8s key).length=true:=by rw [List.length_map,kl]; rfl
 have tkp:putAt (u8s zD32) 0 (u8s key)=some (u8s key):=by
  have:=putAt_app [] (u8s zD32) [] (u8s key) (by rw [List.length_map,List.length_map,kl]; rfl)
  simpa using this
 have hexk:∀ c,extL c (u8s key)=u8s key:=fun c=>extL_closed c (ints_cl _ _ 0)
 clear hkey hv
 refine swp_cut fun K hK hR _=>?_
 conv=>whnf
 refine hK _ _ ?_
 clear hK hR
 refine swp_cut fun K hK hR _=>?_
 refine aops_step fun T S hT hS=>?_
 conv=>whnf
 refine ⟨⟨by decide,rfl,by decide,by decide,rfl⟩,?_⟩
 conv=>whnf
 refine hT _ _ ?_
 refine aops_step fun T S hT hS=>?_
 conv=>whnf
 refine hT _ _ ?_
 refine aops_end ?_
 refine hK _ _ ?_
 clear hK hR
 refine swp_cut fun K hK hR _=>?_
 iterate 2 (refine aops_step fun T S hT hS=>?_; (conv=>whnf); refine hT _ _ ?_)
 refine aops_step fun T S hT hS=>?_
 conv=>whnf
 refine ⟨fun v _=>v=sgT (some svS),fun c B hB hL=>by
  show HC PG B f_sig_Sign [W 3,.one (.slice (some (.ext ⟨c.ι 0,0,none⟩)) zD32.length 32)] _
  exact cS B (fun r o h=>hB r o (.inl h)) (sl_lent (b:=0) (o:=0) (L:=ones (u8s zD32)) (post:=[]) hL rfl rfl rfl rfl (Nat.le_refl 32) (by show 32≤140737488355128; omega) (ones_es _)),⟨sgT (some svS),B0,rfl,rfl⟩,?_⟩
 rintro v N' _ rfl N1 _
 refine hT _ _ ?_
 iterate 6 (refine aops_step fun T S hT hS=>?_; (conv=>whnf); refine hT _ _ ?_)
 refine aops_end ?_
 refine hK _ _ ?_
 clear hK hR
 refine swp_cut fun K hK hR _=>?_
 refine aops_step fun T S hT hS=>?_
 conv=>whnf
 refine hT _ _ ?_
 refine aops_step fun T S hT hS=>?_
 conv=>whnf
 refine ⟨_,cP,rfl,?_⟩
 refine hT _ _ ?_
 iterate 4 (refine aops_step fun T S hT hS=>?_; (conv=>whnf); refine hT _ _ ?_)
 refine aops_step fun T S hT hS=>?_
 conv=>whnf
 conv in (Nat.beq _ _)=>change Nat.beq 32 (u8s key).length; rw [tkl]
 conv=>whnf
 conv in (putAt _ _ _)=>change putAt (u8s zD32) 0 (u8s key); rw [tkp]
 conv=>whnf
 refine hT _ _ ?_
 refine aops_step fun T S hT hS=>?_
 conv=>whnf
 refine hT _ _ ?_
 refine aops_end ?_
 refine hK _ _ ?_
 clear hK hR
 refine swp_cut fun K hK hR _=>?_
 iterate 15 (refine aops_step fun T S hT hS=>?_; (conv=>whnf); refine hT _ _ ?_)
 refine aops_step fun T S hT hS=>?_
 conv=>whnf
 conv in (takeAt _ _ _)=>change takeAt (u8s key) 0 32; rw [tk]
 conv=>whnf
 refine hT _ _ ?_
 iterate 2 (refine aops_step fun T S hT hS=>?_; (conv=>whnf); refine hT _ _ ?_)
 refine aops_step fun T S hT hS=>?_
 conv=>whnf
 refine ⟨fun v _=>v=.one (.bool true),fun c B hB hL=>by
  show HC PG B f_sig_Verify [.agg (extL c (u8s key)),.one (.slice (some (.ext ⟨c.ι 0,0,none⟩)) zD32.length 32),.agg (u8s svS)] _
  rw [hexk c]
  exact cV B (fun r o h=>hB r o (.inl h)) (sl_lent (b:=0) (o:=0) (L:=ones (u8s zD32)) (post:=[]) hL rfl rfl rfl rfl (Nat.le_refl 32) (by show 32≤140737488355128; omega) (ones_es _)),⟨_,B0,rfl,rfl⟩,?_⟩
 rintro v N' _ rfl N1 _
 refine hT _ _ ?_
 iterate 2 (refine aops_step fun T S hT hS=>?_; (conv=>whnf); refine hT _ _ ?_)
 refine aops_end ?_
 refine hK _ _ ?_
 conv=>whnf
 intro c N2 _ _
 rfl

end Go.Hv

namespace Go.Hv
open Go.Ev Go.Ec

end Go.Hv
