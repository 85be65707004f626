import Derived.Test.YthmdbgdagnhheaaGreatDoorHs
import Derived.Test.YthmdbgdagnhheaaGreatDoorSeg
import Derived.Test.YthmdbgdagnhheaaGreatDoorHvR
namespace Go.Hv
open Go.Ev

def w32 (n:Int):Sc:=.int .u32 n
def wadd (a b:Int):Int:=(a+b)%4294967296
def bor (a b:Int):Int:=IntKind.wrap .u32 (BitVec.ofInt (IntKind.bits .u32) a ||| BitVec.ofInt (IntKind.bits .u32) b).toNat
def bxor (a b:Int):Int:=IntKind.wrap .u32 (BitVec.ofInt (IntKind.bits .u32) a ^^^ BitVec.ofInt (IntKind.bits .u32) b).toNat
def band (a b:Int):Int:=IntKind.wrap .u32 (BitVec.ofInt (IntKind.bits .u32) a &&& BitVec.ofInt (IntKind.bits .u32) b).toNat
def rotw (s:Nat) (x:Int):Int:=bor (x*2^s%4294967296) (x.fdiv (2^(32-s)))

structure S8 where
 a:Int
 b:Int
 c:Int
 d:Int
 e:Int
 f:Int
 g:Int
 h:Int

def S8.cells (s:S8):List Sc:=[w32 s.a,w32 s.b,w32 s.c,w32 s.d,w32 s.e,w32 s.f,w32 s.g,w32 s.h]

def begun8:S8:=⟨1779033703,3144134277,1013904242,2773480762,1359893119,2600822924,528734635,1541459225⟩

def sg0 (x:Int):Int:=bxor (bxor (rotw 25 x) (rotw 14 x)) (x.fdiv (2^3))
def sg1 (x:Int):Int:=bxor (bxor (rotw 15 x) (rotw 13 x)) (x.fdiv (2^10))

def word4 (a b c d:Int):Int:=bor (bor (bor (a%4294967296*2^24%4294967296) (b%4294967296*2^16%4294967296)) (c%4294967296*2^8%4294967296)) (d%4294967296)

def Wd (L:Nat→Int) (t:Nat):Int:=
 if t<16 then word4 (L (4*t)) (L (4*t+1)) (L (4*t+2)) (L (4*t+3))
 else wadd (wadd (wadd (Wd L (t-16)) (sg0 (Wd L (t-15)))) (Wd L (t-7))) (sg1 (Wd L (t-2)))
termination_by t
decreasing_by all_goals omega

def stX (k w:Int) (s:S8):Int:=
 wadd (wadd (wadd (wadd s.h (bxor (bxor (rotw 26 s.e) (rotw 21 s.e)) (rotw 7 s.e))) (bxor (band s.e s.f) (band (bxor 4294967295 s.e) s.g))) k) w
def stY (s:S8):Int:=wadd (bxor (bxor (rotw 30 s.a) (rotw 19 s.a)) (rotw 10 s.a)) (bxor (bxor (band s.a s.b) (band s.a s.c)) (band s.b s.c))
def step (k w:Int) (s:S8):S8:=⟨wadd (stX k w s) (stY s),s.a,s.b,s.c,wadd s.d (stX k w s),s.e,s.f,s.g⟩

def tabK:List Int:=[1116352408,1899447441,3049323471,3921009573,961987163,1508970993,2453635748,2870763221,3624381080,310598401,607225278,1426881987,1925078388,2162078206,2614888103,3248222580,3835390401,4022224774,264347078,604807628,770255983,1249150122,1555081692,1996064986,2554220882,2821834349,2952996808,3210313671,3336571891,3584528711,113926993,338241895,666307205,773529912,1294757372,1396182291,1695183700,1986661051,2177026350,2456956037,2730485921,2820302411,3259730800,3345764771,3516065817,3600352804,4094571909,275423344,430227734,506948616,659060556,883997877,958139571,1322822218,1537002063,1747873779,1955562222,2024104815,2227730452,2361852424,2428436474,2756734187,3204031479,3329325298]

def rounds (L:Nat→Int) (s:S8):Nat→S8
 | 0=>s
 | t+1=>step (tabK.getD t 0) (Wd L t) (rounds L s t)

def add8 (s r:S8):S8:=⟨wadd s.a r.a,wadd s.b r.b,wadd s.c r.c,wadd s.d r.d,wadd s.e r.e,wadd s.f r.f,wadd s.g r.g,wadd s.h r.h⟩

def mix (L:Nat→Int) (s:S8):S8:=add8 s (rounds L s 64)

theorem swp_block {G:Cfg} {id:Nat} {b:Code} {Q:Exit→Env→HM→Prop} {e:Env} {m:HM} (h:swpC G b (fun x e' m'=>match x with
  | .exit i=>match Nat.beq i id with
   | true=>Q .normal e' m'
   | false=>Q (.exit i) e' m'
  | x=>Q x e' m') e m):swpC G (.block id b) Q e m:=h

theorem rotl_ok:∀ A,okCode (HHo A fun _=>none) F_bits_RotateLeft32.ntmps (bodyOf F_bits_RotateLeft32)=true:=fun _=>by kernel_rfl
theorem turn_ok:∀ A,okCode (HHo A fun _=>none) F_sha_turn.ntmps (bodyOf F_sha_turn)=true:=fun _=>by kernel_rfl

theorem rotl7_fn {x:Int}:Ev.Fn PG f_bits_RotateLeft32 [.one (w32 x),.one (.int .i64 (-7))] (.one (w32 (rotw 25 x))):=by
 refine fn_startH (fun _=>none) h_bits_RotateLeft32 rfl (by kernel_rfl) rotl_ok rfl rfl fun A=>?_
 refine swp_cut fun K hK hR _=>?_
 conv=>whnf
 refine hK _ _ ?_
 refine swp_cut fun K hK hR _=>?_
 conv=>whnf
 have e:IntKind.wrap .u64 ↑(BitVec.ofInt (IntKind.bits .u64) (-7%18446744073709551616) &&& BitVec.ofInt (IntKind.bits .u64) 31).toNat=25:=by rfl
 rw [e]
 refine hK _ _ ?_
 refine swp_cut fun K hK hR _=>?_
 conv=>whnf
 refine hK _ _ ?_
 conv=>whnf
 intro c N _ _
 rfl

theorem turn7_fn {x:Int}:Ev.Fn PG f_sha_turn [.one (w32 x),.one (.int .i64 7)] (.one (w32 (rotw 25 x))):=by
 refine fn_startH (fun _=>none) h_sha_turn rfl (by kernel_rfl) turn_ok rfl rfl fun A=>?_
 have r:=rotl7_fn (x:=x)
 conv=>whnf
 refine ⟨_,r,rfl,?_⟩
 conv=>whnf
 intro c N _ _
 rfl

theorem rotl18_fn {x:Int}:Ev.Fn PG f_bits_RotateLeft32 [.one (w32 x),.one (.int .i64 (-18))] (.one (w32 (rotw 14 x))):=by
 refine fn_startH (fun _=>none) h_bits_RotateLeft32 rfl (by kernel_rfl) rotl_ok rfl rfl fun A=>?_
 refine swp_cut fun K hK hR _=>?_
 conv=>whnf
 refine hK _ _ ?_
 refine swp_cut fun K hK hR _=>?_
 conv=>whnf
 have e:IntKind.wrap .u64 ↑(BitVec.ofInt (IntKind.bits .u64) (-18%18446744073709551616) &&& BitVec.ofInt (IntKind.bits .u64) 31).toNat=14:=by rfl
 rw [e]
 refine hK _ _ ?_
 refine swp_cut fun K hK hR _=>?_
 conv=>whnf
 refine hK _ _ ?_
 conv=>whnf
 intro c N _ _
 rfl

theorem turn18_fn {x:Int}:Ev.Fn PG f_sha_turn [.one (w32 x),.one (.int .i64 18)] (.one (w32 (rotw 14 x))):=by
 refine fn_startH (fun _=>none) h_sha_turn rfl (by kernel_rfl) turn_ok rfl rfl fun A=>?_
 have r:=rotl18_fn (x:=x)
 conv=>whnf
 refine ⟨_,r,rfl,?_⟩
 conv=>whnf
 intro c N _ _
 rfl

theorem rotl17_fn {x:Int}:Ev.Fn PG f_bits_RotateLeft32 [.one (w32 x),.one (.int .i64 (-17))] (.one (w32 (rotw 15 x))):=by
 refine fn_startH (fun _=>none) h_bits_RotateLeft32 rfl (by kernel_rfl) rotl_ok rfl rfl fun A=>?_
 refine swp_cut fun K hK hR _=>?_
 conv=>whnf
 refine hK _ _ ?_
 refine swp_cut fun K hK hR _=>?_
 conv=>whnf
 have e:IntKind.wrap .u64 ↑(BitVec.ofInt (IntKind.bits .u64) (-17%18446744073709551616) &&& BitVec.ofInt (IntKind.bits .u64) 31).toNat=15:=by rfl
 rw [e]
 refine hK _ _ ?_
 refine swp_cut fun K hK hR _=>?_
 conv=>whnf
 refine hK _ _ ?_
 conv=>whnf
 intro c N _ _
 rfl

theorem turn17_fn {x:Int}:Ev.Fn PG f_sha_turn [.one (w32 x),.one (.int .i64 17)] (.one (w32 (rotw 15 x))):=by
 refine fn_startH (fun _=>none) h_sha_turn rfl (by kernel_rfl) turn_ok rfl rfl fun A=>?_
 have r:=rotl17_fn (x:=x)
 conv=>whnf
 refine ⟨_,r,rfl,?_⟩
 conv=>whnf
 intro c N _ _
 rfl

theorem rotl19_fn {x:Int}:Ev.Fn PG f_bits_RotateLeft32 [.one (w32 x),.one (.int .i64 (-19))] (.one (w32 (rotw 13 x))):=by
 refine fn_startH (fun _=>none) h_bits_RotateLeft32 rfl (by kernel_rfl) rotl_ok rfl rfl fun A=>?_
 refine swp_cut fun K hK hR _=>?_
 conv=>whnf
 refine hK _ _ ?_
 refine swp_cut fun K hK hR _=>?_
 conv=>whnf
 have e:IntKind.wrap .u64 ↑(BitVec.ofInt (IntKind.bits .u64) (-19%18446744073709551616) &&& BitVec.ofInt (IntKind.bits .u64) 31).toNat=13:=by rfl
 rw [e]
 refine hK _ _ ?_
 refine swp_cut fun K hK hR _=>?_
 conv=>whnf
 refine hK _ _ ?_
 conv=>whnf
 intro c N _ _
 rfl

theorem turn19_fn {x:Int}:Ev.Fn PG f_sha_turn [.one (w32 x),.one (.int .i64 19)] (.one (w32 (rotw 13 x))):=by
 refine fn_startH (fun _=>none) h_sha_turn rfl (by kernel_rfl) turn_ok rfl rfl fun A=>?_
 have r:=rotl19_fn (x:=x)
 conv=>whnf
 refine ⟨_,r,rfl,?_⟩
 conv=>whnf
 intro c N _ _
 rfl

theorem rotl6_fn {x:Int}:Ev.Fn PG f_bits_RotateLeft32 [.one (w32 x),.one (.int .i64 (-6))] (.one (w32 (rotw 26 x))):=by
 refine fn_startH (fun _=>none) h_bits_RotateLeft32 rfl (by kernel_rfl) rotl_ok rfl rfl fun A=>?_
 refine swp_cut fun K hK hR _=>?_
 conv=>whnf
 refine hK _ _ ?_
 refine swp_cut fun K hK hR _=>?_
 conv=>whnf
 have e:IntKind.wrap .u64 ↑(BitVec.ofInt (IntKind.bits .u64) (-6%18446744073709551616) &&& BitVec.ofInt (IntKind.bits .u64) 31).toNat=26:=by rfl
 rw [e]
 refine hK _ _ ?_
 refine swp_cut fun K hK hR _=>?_
 conv=>whnf
 refine hK _ _ ?_
 conv=>whnf
 intro c N _ _
 rfl

theorem turn6_fn {x:Int}:Ev.Fn PG f_sha_turn [.one (w32 x),.one (.int .i64 6)] (.one (w32 (rotw 26 x))):=by
 refine fn_startH (fun _=>none) h_sha_turn rfl (by kernel_rfl) turn_ok rfl rfl fun A=>?_
 have r:=rotl6_fn (x:=x)
 conv=>whnf
 refine ⟨_,r,rfl,?_⟩
 conv=>whnf
 intro c N _ _
 rfl

theorem rotl11_fn {x:Int}:Ev.Fn PG f_bits_RotateLeft32 [.one (w32 x),.one (.int .i64 (-11))] (.one (w32 (rotw 21 x))):=by
 refine fn_startH (fun _=>none) h_bits_RotateLeft32 rfl (by kernel_rfl) rotl_ok rfl rfl fun A=>?_
 refine swp_cut fun K hK hR _=>?_
 conv=>whnf
 refine hK _ _ ?_
 refine swp_cut fun K hK hR _=>?_
 conv=>whnf
 have e:IntKind.wrap .u64 ↑(BitVec.ofInt (IntKind.bits .u64) (-11%18446744073709551616) &&& BitVec.ofInt (IntKind.bits .u64) 31).toNat=21:=by rfl
 rw [e]
 refine hK _ _ ?_
 refine swp_cut fun K hK hR _=>?_
 conv=>whnf
 refine hK _ _ ?_
 conv=>whnf
 intro c N _ _
 rfl

theorem turn11_fn {x:Int}:Ev.Fn PG f_sha_turn [.one (w32 x),.one (.int .i64 11)] (.one (w32 (rotw 21 x))):=by
 refine fn_startH (fun _=>none) h_sha_turn rfl (by kernel_rfl) turn_ok rfl rfl fun A=>?_
 have r:=rotl11_fn (x:=x)
 conv=>whnf
 refine ⟨_,r,rfl,?_⟩
 conv=>whnf
 intro c N _ _
 rfl

theorem rotl25_fn {x:Int}:Ev.Fn PG f_bits_RotateLeft32 [.one (w32 x),.one (.int .i64 (-25))] (.one (w32 (rotw 7 x))):=by
 refine fn_startH (fun _=>none) h_bits_RotateLeft32 rfl (by kernel_rfl) rotl_ok rfl rfl fun A=>?_
 refine swp_cut fun K hK hR _=>?_
 conv=>whnf
 refine hK _ _ ?_
 refine swp_cut fun K hK hR _=>?_
 conv=>whnf
 have e:IntKind.wrap .u64 ↑(BitVec.ofInt (IntKind.bits .u64) (-25%18446744073709551616) &&& BitVec.ofInt (IntKind.bits .u64) 31).toNat=7:=by rfl
 rw [e]
 refine hK _ _ ?_
 refine swp_cut fun K hK hR _=>?_
 conv=>whnf
 refine hK _ _ ?_
 conv=>whnf
 intro c N _ _
 rfl

theorem turn25_fn {x:Int}:Ev.Fn PG f_sha_turn [.one (w32 x),.one (.int .i64 25)] (.one (w32 (rotw 7 x))):=by
 refine fn_startH (fun _=>none) h_sha_turn rfl (by kernel_rfl) turn_ok rfl rfl fun A=>?_
 have r:=rotl25_fn (x:=x)
 conv=>whnf
 refine ⟨_,r,rfl,?_⟩
 conv=>whnf
 intro c N _ _
 rfl

theorem rotl2_fn {x:Int}:Ev.Fn PG f_bits_RotateLeft32 [.one (w32 x),.one (.int .i64 (-2))] (.one (w32 (rotw 30 x))):=by
 refine fn_startH (fun _=>none) h_bits_RotateLeft32 rfl (by kernel_rfl) rotl_ok rfl rfl fun A=>?_
 refine swp_cut fun K hK hR _=>?_
 conv=>whnf
 refine hK _ _ ?_
 refine swp_cut fun K hK hR _=>?_
 conv=>whnf
 have e:IntKind.wrap .u64 ↑(BitVec.ofInt (IntKind.bits .u64) (-2%18446744073709551616) &&& BitVec.ofInt (IntKind.bits .u64) 31).toNat=30:=by rfl
 rw [e]
 refine hK _ _ ?_
 refine swp_cut fun K hK hR _=>?_
 conv=>whnf
 refine hK _ _ ?_
 conv=>whnf
 intro c N _ _
 rfl

theorem turn2_fn {x:Int}:Ev.Fn PG f_sha_turn [.one (w32 x),.one (.int .i64 2)] (.one (w32 (rotw 30 x))):=by
 refine fn_startH (fun _=>none) h_sha_turn rfl (by kernel_rfl) turn_ok rfl rfl fun A=>?_
 have r:=rotl2_fn (x:=x)
 conv=>whnf
 refine ⟨_,r,rfl,?_⟩
 conv=>whnf
 intro c N _ _
 rfl

theorem rotl13_fn {x:Int}:Ev.Fn PG f_bits_RotateLeft32 [.one (w32 x),.one (.int .i64 (-13))] (.one (w32 (rotw 19 x))):=by
 refine fn_startH (fun _=>none) h_bits_RotateLeft32 rfl (by kernel_rfl) rotl_ok rfl rfl fun A=>?_
 refine swp_cut fun K hK hR _=>?_
 conv=>whnf
 refine hK _ _ ?_
 refine swp_cut fun K hK hR _=>?_
 conv=>whnf
 have e:IntKind.wrap .u64 ↑(BitVec.ofInt (IntKind.bits .u64) (-13%18446744073709551616) &&& BitVec.ofInt (IntKind.bits .u64) 31).toNat=19:=by rfl
 rw [e]
 refine hK _ _ ?_
 refine swp_cut fun K hK hR _=>?_
 conv=>whnf
 refine hK _ _ ?_
 conv=>whnf
 intro c N _ _
 rfl

theorem turn13_fn {x:Int}:Ev.Fn PG f_sha_turn [.one (w32 x),.one (.int .i64 13)] (.one (w32 (rotw 19 x))):=by
 refine fn_startH (fun _=>none) h_sha_turn rfl (by kernel_rfl) turn_ok rfl rfl fun A=>?_
 have r:=rotl13_fn (x:=x)
 conv=>whnf
 refine ⟨_,r,rfl,?_⟩
 conv=>whnf
 intro c N _ _
 rfl

theorem rotl22_fn {x:Int}:Ev.Fn PG f_bits_RotateLeft32 [.one (w32 x),.one (.int .i64 (-22))] (.one (w32 (rotw 10 x))):=by
 refine fn_startH (fun _=>none) h_bits_RotateLeft32 rfl (by kernel_rfl) rotl_ok rfl rfl fun A=>?_
 refine swp_cut fun K hK hR _=>?_
 conv=>whnf
 refine hK _ _ ?_
 refine swp_cut fun K hK hR _=>?_
 conv=>whnf
 have e:IntKind.wrap .u64 ↑(BitVec.ofInt (IntKind.bits .u64) (-22%18446744073709551616) &&& BitVec.ofInt (IntKind.bits .u64) 31).toNat=10:=by rfl
 rw [e]
 refine hK _ _ ?_
 refine swp_cut fun K hK hR _=>?_
 conv=>whnf
 refine hK _ _ ?_
 conv=>whnf
 intro c N _ _
 rfl

theorem turn22_fn {x:Int}:Ev.Fn PG f_sha_turn [.one (w32 x),.one (.int .i64 22)] (.one (w32 (rotw 10 x))):=by
 refine fn_startH (fun _=>none) h_sha_turn rfl (by kernel_rfl) turn_ok rfl rfl fun A=>?_
 have r:=rotl22_fn (x:=x)
 conv=>whnf
 refine ⟨_,r,rfl,?_⟩
 conv=>whnf
 intro c N _ _
 rfl

theorem rowPut {l:List Sc} {z v:Sc} {n j:Nat} (hl:l.length=n) (hj:j<n) (hv:l[j]?=some v):putAt (l.take j++List.replicate (n-j) z) (0+j*1) [v]=some (l.take (j+1)++List.replicate (n-(j+1)) z):=by
 subst hl
 obtain ⟨_,hv'⟩:=List.getElem?_eq_some_iff.1 hv
 have e:l.length-j=(l.length-(j+1))+1:=by omega
 rw [e,List.replicate_succ]
 have hlen:(l.take j).length=j:=by rw [List.length_take]; omega
 have:=putAt_app (l.take j) [z] (List.replicate (l.length-(j+1)) z) [v] rfl
 rw [hlen] at this
 rw [Nat.zero_add,Nat.mul_one,← List.singleton_append,this,← take_snoc hj,hv',List.append_assoc]

theorem rowTake {l r:List Sc} {v:Sc} {i j:Nat} (hij:i<j) (hj:j≤l.length) (hv:l[i]?=some v):takeAt (l.take j++r) (0+i*1) 1=some [v]:=by
 have hlt:i<(l.take j++r).length:=by rw [List.length_append,List.length_take]; omega
 rw [take1 hlt]
 have:(l.take j++r)[i]?=some v:=by rw [List.getElem?_append_left (by rw [List.length_take]; omega),List.getElem?_take_of_lt hij,hv]
 rw [List.getElem?_eq_getElem hlt] at this
 rw [Option.some.inj this]

theorem fzL_cl {F:Nat→Bool} {c:Con}:∀ {l:List Sc},closedL 0 l=true→fzL F c l=l
 | [],_=>rfl
 | s::l,h=>by
  have h1:=closedL_iff.1 h s (by simp)
  have h2:closedL 0 l=true:=closedL_iff.2 fun s hs=>closedL_iff.1 h s (by simp [hs])
  have hs:Sc.fz F c s=s:=by
   cases s with
   | ptr p=>cases p with
    | none=>rfl
    | some p=>cases p with
     | ext a=>rfl
     | loc b o=>simp [Sc.closed,SP.closed] at h1
   | slice p n k=>cases p with
    | none=>rfl
    | some p=>cases p with
     | ext a=>rfl
     | loc b o=>simp [Sc.closed,SP.closed] at h1
   | buf b l=>simp [Sc.closed] at h1
   | _=>rfl
  simp only [fzL,hs,fzL_cl h2]

theorem onesGet {l:List Sc} {i:Nat} {s:Sc} (h:l[i]?=some s):(ones l)[i]?=some [s]:=by simp [ones,h]

theorem ints_cl (k:IntKind) (l:List Int) (n:Nat):closedL n (l.map (Sc.int k))=true:=closedL_iff.2 fun s hs=>by
 obtain ⟨z,_,rfl⟩:=List.mem_map.1 hs
 rfl

theorem sl_ext' {A:Base} {es:Nat} {p:Option SP} {n cap:Nat} {L:List (List Sc)} (h:Sl A es (.one (.slice p n cap)) L) (hL:0<L.length):∃ a,p=some (.ext a):=by
 obtain ⟨p',cap',e1,_,_,h4⟩:=h
 simp only [TV.one.injEq,Sc.slice.injEq] at e1
 obtain ⟨rfl,_,_⟩:=e1
 match p,h4 with
 | none,h4=>rw [h4.1] at hL; exact absurd hL (Nat.lt_irrefl _)
 | some (.ext a),_=>exact ⟨a,rfl⟩

def wl (L:Nat→Int):List Sc:=(List.range 64).map fun i=>w32 (Wd L i)
theorem wl_len (L:Nat→Int):(wl L).length=64:=by simp [wl]
theorem wl_get (L:Nat→Int) {i:Nat} (h:i<64):(wl L)[i]?=some (w32 (Wd L i)):=by simp [wl,h]
def wrow (L:Nat→Int) (t:Nat):List Sc:=(wl L).take t++List.replicate (64-t) (w32 0)
theorem wrow_cl (L:Nat→Int) (t n:Nat):closedL n (wrow L t)=true:=closedL_iff.2 fun s hs=>by
 rcases List.mem_append.1 hs with h | h
 ·obtain ⟨i,_,rfl⟩:=List.mem_map.1 (List.mem_of_mem_take h)
  rfl
 ·rw [(List.mem_replicate.1 h).2]
  rfl
theorem wrow_put (L:Nat→Int) {t:Nat} (h:t<64):putAt (wrow L t) (0+t*1) [w32 (Wd L t)]=some (wrow L (t+1)):=rowPut (wl_len L) h (wl_get L h)
theorem wrow_take (L:Nat→Int) {i t:Nat} (h:i<t) (ht:t≤64):takeAt (wrow L t) (0+i*1) 1=some [w32 (Wd L i)]:=rowTake h (by rw [wl_len]; exact ht) (wl_get L (by omega))
theorem wrow_blk (L:Nat→Int) (t k:Nat) (F:Nat→Bool) (c:Con):(⟨wrow L t,k,0,false⟩:Blk)=⟨fzL F c (wrow L t),k,0,false⟩:=by rw [fzL_cl (wrow_cl L t 0)]

theorem wrow_0 (L:Nat→Int):wrow L 0=List.replicate 64 (w32 0):=by
 unfold wrow
 rw [List.take_zero]
 rfl
theorem wrow_blk0 (L:Nat→Int) (k:Nat) (F:Nat→Bool) (c:Con):(⟨wrow L 0,k,0,false⟩:Blk)=⟨fzL F c (List.replicate 64 (w32 0)),k,0,false⟩:=by rw [← wrow_0 L,fzL_cl (wrow_cl L 0 0)]

theorem mixed_ok:∀ A,okCode (HHo A fun _=>none) F_sha_state_mixed.ntmps (bodyOf F_sha_state_mixed)=true:=fun _=>by kernel_rfl

theorem Wd_lo (L:Nat→Int) {t:Nat} (h:t<16):Wd L t=word4 (L (4*t)) (L (4*t+1)) (L (4*t+2)) (L (4*t+3)):=by
 rw [Wd,if_pos h]
theorem Wd_hi (L:Nat→Int) {t:Nat} (h:¬ t<16):Wd L t=wadd (wadd (wadd (Wd L (t-16)) (sg0 (Wd L (t-15)))) (Wd L (t-7))) (sg1 (Wd L (t-2))):=by
 rw [Wd,if_neg h]

theorem wrapN {z:Int} {n:Nat} (h:z=n) (hn:n<9223372036854775808):IntKind.i64.wrap z=(n:Int):=by
 subst h
 simp only [IntKind.wrap,IntKind.signed,IntKind.bits]
 simp
 omega

def Tab (A:Base):Prop:=ERead A true 64 ⟨g_sha_table,0,none⟩ (.agg (tabK.map w32))

def MxE1 (q:TV) (t:Nat):Env:=[(15,.one (.int .i64 (t:Int))),(5,.one (.ptr (some (.loc 2 0)))),(4,.one (.ptr (some (.loc 1 0)))),(2,.one (.ptr (some (.loc 0 0)))),(1,q)]

def MxE2 (t:Nat):Env:=[(95,.one (.int .i64 (t:Int))),(94,.agg (tabK.map w32)),(9,.one (.ptr (some (.loc 3 0)))),(5,.one (.ptr (some (.loc 2 0)))),(4,.one (.ptr (some (.loc 1 0)))),(2,.one (.ptr (some (.loc 0 0))))]

def MxI2 (L:Nat→Int) (s:S8) (k:Nat) (e:Env) (m:HM):Prop:=
 ∃ (t t0 t1 t2 t3:Nat) (N:Base),t≤64∧k=64-t∧e=MxE2 t∧m=⟨[some ⟨s.cells,t0,0,false⟩,some ⟨List.replicate 8 (w32 0),t1,0,false⟩,some ⟨wrow L 64,t2,0,false⟩,some ⟨(rounds L s t).cells,t3,0,false⟩],N⟩

theorem tab_take {t:Nat} (h:t<64):takeAt (tabK.map w32) (t*1) 1=some [w32 (tabK.getD t 0)]:=by
 have hl:(tabK.map w32).length=64:=rfl
 have:=take1 (l:=tabK.map w32) (j:=t) (by rw [hl]; exact h)
 rw [Nat.zero_add] at this
 rw [this,List.getElem_map,List.getD_eq_getElem?_getD,List.getElem?_eq_getElem (show t<tabK.length from h)]
 rfl

def MxI1 (L:Nat→Int) (s:S8) (q:TV) (k:Nat) (e:Env) (m:HM):Prop:=
 ∃ (t t0 t1 t2:Nat) (_z:List Sc) (N:Base),t≤64∧k=64-t∧e=MxE1 q t∧m=⟨[some ⟨s.cells,t0,0,false⟩,some ⟨List.replicate 8 (w32 0),t1,0,false⟩,some ⟨wrow L t,t2,0,false⟩],N⟩

set_option maxHeartbeats 4000000 in
set_option maxRecDepth 100000 in
theorem mixed_hc {A:Base} {s:S8} {q:Option SP} {cap:Nat} {P:List Int} (hP:P.length=64) (hTb:Tab A) (hs:Sl A 1 (.one (.slice q 64 cap)) (ones (P.map (Sc.int .u8)))) :
  HC PG A f_sha_state_mixed [.agg s.cells,.one (.slice q 64 cap)] fun v _=>v=.agg (mix (fun i=>P.getD i 0) s).cells:=by
 obtain ⟨g1,g2,g3⟩:=hs.stable
 obtain ⟨a,rfl⟩:=sl_ext' hs (by rw [ones_len,List.length_map,hP]; decide)
 have hel:∀ {i:Nat},i<64→(ones (P.map (Sc.int .u8)))[i]?=some [.int .u8 (P.getD i 0)]:=fun {i} hi=>onesGet (by
  rw [List.getElem?_map,List.getD_eq_getElem?_getD,List.getElem?_eq_getElem (by omega)]
  rfl)
 generalize hL:(fun i=>P.getD i 0)=L at *
 have hel:∀ {i:Nat},i<64→(ones (P.map (Sc.int .u8)))[i]?=some [.int .u8 (L i)]:=fun {i} hi=>by rw [← hL]; exact hel hi
 refine hc_start (fun _=>none) h_sha_state_mixed rfl (by kernel_rfl) (mixed_ok A) (closedTs_iff.2 fun v hv=>by
  simp only [List.mem_cons,List.not_mem_nil,or_false] at hv
  rcases hv with rfl | rfl<;>rfl) ?_
 refine swp_cut fun K hK hR _=>?_
 conv=>whnf
 refine hK _ _ ?_
 clear hK hR
 refine swp_cut fun K hK hR _=>?_
 conv=>whnf
 refine hK _ _ ?_
 clear hK hR
 refine swp_cut fun K hK hR _=>?_
 refine swp_cut fun K2 hK2 _ _=>?_
 conv=>whnf
 refine hK2 _ _ ?_
 clear hK2
 conv=>whnf
 refine .inr (loop_invC (gH A _) (MxI1 L s (.one (.slice (some (.ext a)) 64 cap))) ?_ ?_)
 ·intro k' e' m' hI
  obtain ⟨t,t0,t1,t2,_,N,ht64,rfl,rfl,rfl⟩:=hI
  conv=>whnf
  cases hlt:decide ((t:Int)<64) with
  | true=>
   have ht:t<64:=by have:=of_decide_eq_true hlt; omega
   conv=>whnf
   cases hlo:decide ((t:Int)<16) with
   | true=>
    have h16:t<16:=by have:=of_decide_eq_true hlo; omega
    have e4:wr .i64 (4*(t:Int))=.int .i64 ((4*t:Nat):Int):=by
     simp only [wr]
     rw [wrapN (n:=4*t) (by omega) (by omega)]
    have e41:wr .i64 (((4*t:Nat):Int)+1)=.int .i64 ((4*t+1:Nat):Int):=by
     simp only [wr]
     rw [wrapN (n:=4*t+1) (by omega) (by omega)]
    have e42:wr .i64 (((4*t:Nat):Int)+2)=.int .i64 ((4*t+2:Nat):Int):=by
     simp only [wr]
     rw [wrapN (n:=4*t+2) (by omega) (by omega)]
    have e43:wr .i64 (((4*t:Nat):Int)+3)=.int .i64 ((4*t+3:Nat):Int):=by
     simp only [wr]
     rw [wrapN (n:=4*t+3) (by omega) (by omega)]
    have h0:4*t<64:=by omega
    have h1:4*t+1<64:=by omega
    have h2:4*t+2<64:=by omega
    have h3:4*t+3<64:=by omega
    show swpC _ _ _ _ _
    refine swp_cut fun K3 hK3 hR3 _=>?_
    iterate 3 (refine aops_step fun T S hT hS=>?_; (conv=>whnf); refine hT _ _ ?_)
    refine aops_step fun T S hT hS=>?_
    conv=>whnf
    rw [e4]
    refine hT _ _ ?_
    refine aops_step fun T S hT hS=>?_
    conv=>whnf
    rw [dec_idx (n:=64) h0]
    conv=>whnf
    refine hT _ _ ?_
    refine aops_step fun T S hT hS=>?_
    conv=>whnf
    refine ⟨_,ERead_l (Sl.one (i:=4*t) hs (hel h0)),?_⟩
    refine hT _ _ ?_
    iterate 4 (refine aops_step fun T S hT hS=>?_; (conv=>whnf); refine hT _ _ ?_)
    refine aops_step fun T S hT hS=>?_
    conv=>whnf
    rw [e4]
    refine hT _ _ ?_
    refine aops_step fun T S hT hS=>?_
    conv=>whnf
    rw [e41]
    refine hT _ _ ?_
    refine aops_step fun T S hT hS=>?_
    conv=>whnf
    rw [dec_idx (n:=64) h1]
    conv=>whnf
    refine hT _ _ ?_
    refine aops_step fun T S hT hS=>?_
    conv=>whnf
    refine ⟨_,ERead_l (Sl.one (i:=4*t+1) hs (hel h1)),?_⟩
    refine hT _ _ ?_
    iterate 5 (refine aops_step fun T S hT hS=>?_; (conv=>whnf); refine hT _ _ ?_)
    refine aops_step fun T S hT hS=>?_
    conv=>whnf
    rw [e4]
    refine hT _ _ ?_
    refine aops_step fun T S hT hS=>?_
    conv=>whnf
    rw [e42]
    refine hT _ _ ?_
    refine aops_step fun T S hT hS=>?_
    conv=>whnf
    rw [dec_idx (n:=64) h2]
    conv=>whnf
    refine hT _ _ ?_
    refine aops_step fun T S hT hS=>?_
    conv=>whnf
    refine ⟨_,ERead_l (Sl.one (i:=4*t+2) hs (hel h2)),?_⟩
    refine hT _ _ ?_
    iterate 5 (refine aops_step fun T S hT hS=>?_; (conv=>whnf); refine hT _ _ ?_)
    refine aops_step fun T S hT hS=>?_
    conv=>whnf
    rw [e4]
    refine hT _ _ ?_
    refine aops_step fun T S hT hS=>?_
    conv=>whnf
    rw [e43]
    refine hT _ _ ?_
    refine aops_step fun T S hT hS=>?_
    conv=>whnf
    rw [dec_idx (n:=64) h3]
    conv=>whnf
    refine hT _ _ ?_
    refine aops_step fun T S hT hS=>?_
    conv=>whnf
    refine ⟨_,ERead_l (Sl.one (i:=4*t+3) hs (hel h3)),?_⟩
    refine hT _ _ ?_
    iterate 2 (refine aops_step fun T S hT hS=>?_; (conv=>whnf); refine hT _ _ ?_)
    refine aops_step fun T S hT hS=>?_
    conv=>whnf
    rw [dec_idx (n:=64) ht]
    conv=>whnf
    refine hT _ _ ?_
    refine aops_step fun T S hT hS=>?_
    conv=>whnf
    conv in (putAt _ _ _)=>change putAt (wrow L t) (0+t*1) [w32 (word4 (L (4*t)) (L (4*t+1)) (L (4*t+2)) (L (4*t+3)))]; rw [← Wd_lo L h16,wrow_put L ht]
    conv=>whnf
    refine hT _ _ ?_
    refine aops_end ?_
    refine hK3 _ _ ?_
    clear hK3 hR3
    conv=>whnf
    refine ⟨64-(t+1),F0,by omega,fun c N1 _ _=>⟨_,_,wk_of (by (repeat' apply And.intro)<;>first | trivial | exact ⟨_,rfl,tv_inc (n:=64) ht (by omega),rfl⟩ | exact ⟨_,rfl,rfl,rfl⟩) (by (repeat' apply And.intro)<;>first | trivial | rfl | exact ⟨_,rfl,rfl,rfl⟩ | exact ⟨_,rfl,wrow_blk L (t+1) _ _ _,wrow_cl L (t+1) _⟩) (by exact Nat.le_of_ble_eq_true rfl) (by exact Nat.le_of_ble_eq_true rfl),⟨t+1,t0,t1,t2,[],N1,ht,rfl,rfl,rfl⟩⟩⟩
   | false=>
    have hge:¬ t<16:=by have:=of_decide_eq_false hlo; omega
    have e15:wr .i64 ((t:Int)-15)=.int .i64 ((t-15:Nat):Int):=by
     simp only [wr]
     rw [wrapN (n:=t-15) (by omega) (by omega)]
    have h15:t-15<64:=by omega
    have l15:t-15<t:=by omega
    have e2:wr .i64 ((t:Int)-2)=.int .i64 ((t-2:Nat):Int):=by
     simp only [wr]
     rw [wrapN (n:=t-2) (by omega) (by omega)]
    have h2:t-2<64:=by omega
    have l2:t-2<t:=by omega
    have e16:wr .i64 ((t:Int)-16)=.int .i64 ((t-16:Nat):Int):=by
     simp only [wr]
     rw [wrapN (n:=t-16) (by omega) (by omega)]
    have h16:t-16<64:=by omega
    have l16:t-16<t:=by omega
    have e7:wr .i64 ((t:Int)-7)=.int .i64 ((t-7:Nat):Int):=by
     simp only [wr]
     rw [wrapN (n:=t-7) (by omega) (by omega)]
    have h7:t-7<64:=by omega
    have l7:t-7<t:=by omega
    show swpC _ _ _ _ _
    refine swp_cut fun K3 hK3 hR3 _=>?_
    refine aops_step fun T S hT hS=>?_
    conv=>whnf
    refine hT _ _ ?_
    refine aops_step fun T S hT hS=>?_
    conv=>whnf
    rw [e15]
    refine hT _ _ ?_
    refine aops_step fun T S hT hS=>?_
    conv=>whnf
    rw [dec_idx (n:=64) h15]
    conv=>whnf
    refine hT _ _ ?_
    refine aops_step fun T S hT hS=>?_
    conv=>whnf
    conv in (takeAt _ _ _)=>change takeAt (wrow L t) (0+(t-15)*1) 1; rw [wrow_take L l15 ht64]
    conv=>whnf
    refine hT _ _ ?_
    refine aops_step fun T S hT hS=>?_
    conv=>whnf
    refine hT _ _ ?_
    refine aops_step fun T S hT hS=>?_
    conv=>whnf
    rw [e2]
    refine hT _ _ ?_
    refine aops_step fun T S hT hS=>?_
    conv=>whnf
    rw [dec_idx (n:=64) h2]
    conv=>whnf
    refine hT _ _ ?_
    refine aops_step fun T S hT hS=>?_
    conv=>whnf
    conv in (takeAt _ _ _)=>change takeAt (wrow L t) (0+(t-2)*1) 1; rw [wrow_take L l2 ht64]
    conv=>whnf
    refine hT _ _ ?_
    iterate 2 (refine aops_step fun T S hT hS=>?_; (conv=>whnf); refine hT _ _ ?_)
    refine aops_end ?_
    refine hK3 _ _ ?_
    clear hK3 hR3
    iterate 2 (refine aops_step fun T S hT hS=>?_; (conv=>whnf); refine hT _ _ ?_)
    refine aops_step fun T S hT hS=>?_
    conv=>whnf
    rw [e16]
    refine hT _ _ ?_
    refine aops_step fun T S hT hS=>?_
    conv=>whnf
    rw [dec_idx (n:=64) h16]
    conv=>whnf
    refine hT _ _ ?_
    refine aops_step fun T S hT hS=>?_
    conv=>whnf
    conv in (takeAt _ _ _)=>change takeAt (wrow L t) (0+(t-16)*1) 1; rw [wrow_take L l16 ht64]
    conv=>whnf
    refine hT _ _ ?_
    refine aops_step fun T S hT hS=>?_
    conv=>whnf
    refine hT _ _ ?_
    refine aops_step fun T S hT hS=>?_
    conv=>whnf
    refine ⟨_,turn7_fn,rfl,?_⟩
    refine hT _ _ ?_
    refine aops_step fun T S hT hS=>?_
    conv=>whnf
    refine hT _ _ ?_
    refine aops_step fun T S hT hS=>?_
    conv=>whnf
    refine ⟨_,turn18_fn,rfl,?_⟩
    refine hT _ _ ?_
    iterate 6 (refine aops_step fun T S hT hS=>?_; (conv=>whnf); refine hT _ _ ?_)
    refine aops_step fun T S hT hS=>?_
    conv=>whnf
    rw [e7]
    refine hT _ _ ?_
    refine aops_step fun T S hT hS=>?_
    conv=>whnf
    rw [dec_idx (n:=64) h7]
    conv=>whnf
    refine hT _ _ ?_
    refine aops_step fun T S hT hS=>?_
    conv=>whnf
    conv in (takeAt _ _ _)=>change takeAt (wrow L t) (0+(t-7)*1) 1; rw [wrow_take L l7 ht64]
    conv=>whnf
    refine hT _ _ ?_
    iterate 2 (refine aops_step fun T S hT hS=>?_; (conv=>whnf); refine hT _ _ ?_)
    refine aops_step fun T S hT hS=>?_
    conv=>whnf
    refine ⟨_,turn17_fn,rfl,?_⟩
    refine hT _ _ ?_
    refine aops_step fun T S hT hS=>?_
    conv=>whnf
    refine hT _ _ ?_
    refine aops_step fun T S hT hS=>?_
    conv=>whnf
    refine ⟨_,turn19_fn,rfl,?_⟩
    refine hT _ _ ?_
    iterate 5 (refine aops_step fun T S hT hS=>?_; (conv=>whnf); refine hT _ _ ?_)
    refine aops_step fun T S hT hS=>?_
    conv=>whnf
    rw [dec_idx (n:=64) ht]
    conv=>whnf
    refine hT _ _ ?_
    refine aops_step fun T S hT hS=>?_
    conv=>whnf
    conv in (putAt _ _ _)=>change putAt (wrow L t) (0+t*1) [w32 (wadd (wadd (wadd (Wd L (t-16)) (sg0 (Wd L (t-15)))) (Wd L (t-7))) (sg1 (Wd L (t-2))))]; rw [← Wd_hi L hge,wrow_put L ht]
    conv=>whnf
    refine hT _ _ ?_
    refine aops_end ?_
    conv=>whnf
    refine ⟨64-(t+1),F0,by omega,fun c N1 _ _=>⟨_,_,wk_of (by (repeat' apply And.intro)<;>first | trivial | exact ⟨_,rfl,tv_inc (n:=64) ht (by omega),rfl⟩ | exact ⟨_,rfl,rfl,rfl⟩) (by (repeat' apply And.intro)<;>first | trivial | rfl | exact ⟨_,rfl,rfl,rfl⟩ | exact ⟨_,rfl,wrow_blk L (t+1) _ _ _,wrow_cl L (t+1) _⟩) (by exact Nat.le_of_ble_eq_true rfl) (by exact Nat.le_of_ble_eq_true rfl),⟨t+1,t0,t1,t2,[],N1,ht,rfl,rfl,rfl⟩⟩⟩
  | false=>
   obtain rfl:t=64:=by have:=of_decide_eq_false hlt; omega
   conv=>whnf
   refine hK _ _ ?_
   clear hK hR
   refine swp_cut fun K hK hR _=>?_
   conv=>whnf
   refine hK _ _ ?_
   clear hK hR
   refine swp_cut fun K hK hR _=>?_
   refine swp_cut fun K2 hK2 hR2 _=>?_
   refine aops_step fun T S hT hS=>?_
   conv=>whnf
   refine ⟨_,ERead_l hTb,?_⟩
   refine hT _ _ ?_
   refine aops_step fun T S hT hS=>?_
   conv=>whnf
   refine hT _ _ ?_
   refine aops_end ?_
   refine hK2 _ _ ?_
   clear hK2 hR2
   conv=>whnf
   refine .inr (loop_invC (gH A _) (MxI2 L s) ?_ ?_)
   ·intro k' e' m' hI
    obtain ⟨t,t0,t1,t2,t3,N,ht64,rfl,rfl,rfl⟩:=hI
    conv=>whnf
    cases hlt:decide ((t:Int)<64) with
    | true=>
     have ht:t<64:=by have:=of_decide_eq_true hlt; omega
     have hstep:rounds L s (t+1)=step (tabK.getD t 0) (Wd L t) (rounds L s t):=rfl
     generalize hr:rounds L s t=r at *
     have hblk:∀ F c,(⟨(rounds L s (t+1)).cells,t3,0,false⟩:Blk)=⟨fzL F c (step (tabK.getD t 0) (Wd L t) r).cells,t3,0,false⟩:=fun F c=>by rw [hstep]; rfl
     show swpC _ _ _ _ _
     refine swp_cut fun K4 hK4 hR4 _=>?_
     show swpC _ (Code.seq _ _) _ _ _
     refine swp_cut fun K3 hK3 hR3 _=>?_
     refine aops_step fun T S hT hS=>?_
     conv=>whnf
     refine hT _ _ ?_
     refine aops_step fun T S hT hS=>?_
     conv=>whnf
     rw [dec_idx (n:=64) ht]
     conv=>whnf
     conv in (takeAt _ _ _)=>change takeAt (tabK.map w32) (t*1) 1; rw [tab_take ht]
     conv=>whnf
     refine hT _ _ ?_
     iterate 2 (refine aops_step fun T S hT hS=>?_; (conv=>whnf); refine hT _ _ ?_)
     refine aops_end ?_
     refine hK3 _ _ ?_
     clear hK3 hR3
     refine swp_cut fun K3 hK3 hR3 _=>?_
     iterate 4 (refine aops_step fun T S hT hS=>?_; (conv=>whnf); refine hT _ _ ?_)
     refine aops_step fun T S hT hS=>?_
     conv=>whnf
     refine ⟨_,turn6_fn,rfl,?_⟩
     refine hT _ _ ?_
     iterate 2 (refine aops_step fun T S hT hS=>?_; (conv=>whnf); refine hT _ _ ?_)
     refine aops_step fun T S hT hS=>?_
     conv=>whnf
     refine ⟨_,turn11_fn,rfl,?_⟩
     refine hT _ _ ?_
     iterate 3 (refine aops_step fun T S hT hS=>?_; (conv=>whnf); refine hT _ _ ?_)
     refine aops_step fun T S hT hS=>?_
     conv=>whnf
     refine ⟨_,turn25_fn,rfl,?_⟩
     refine hT _ _ ?_
     iterate 18 (refine aops_step fun T S hT hS=>?_; (conv=>whnf); refine hT _ _ ?_)
     refine aops_step fun T S hT hS=>?_
     conv=>whnf
     rw [dec_idx (n:=64) ht]
     conv=>whnf
     refine hT _ _ ?_
     refine aops_step fun T S hT hS=>?_
     conv=>whnf
     conv in (takeAt _ _ _)=>change takeAt (wrow L 64) (0+t*1) 1; rw [wrow_take L ht (Nat.le_refl _)]
     conv=>whnf
     refine hT _ _ ?_
     iterate 2 (refine aops_step fun T S hT hS=>?_; (conv=>whnf); refine hT _ _ ?_)
     refine aops_end ?_
     refine hK3 _ _ ?_
     clear hK3 hR3
     refine swp_cut fun K3 hK3 hR3 _=>?_
     iterate 2 (refine aops_step fun T S hT hS=>?_; (conv=>whnf); refine hT _ _ ?_)
     refine aops_step fun T S hT hS=>?_
     conv=>whnf
     refine ⟨_,turn2_fn,rfl,?_⟩
     refine hT _ _ ?_
     iterate 2 (refine aops_step fun T S hT hS=>?_; (conv=>whnf); refine hT _ _ ?_)
     refine aops_step fun T S hT hS=>?_
     conv=>whnf
     refine ⟨_,turn13_fn,rfl,?_⟩
     refine hT _ _ ?_
     iterate 3 (refine aops_step fun T S hT hS=>?_; (conv=>whnf); refine hT _ _ ?_)
     refine aops_step fun T S hT hS=>?_
     conv=>whnf
     refine ⟨_,turn22_fn,rfl,?_⟩
     refine hT _ _ ?_
     iterate 20 (refine aops_step fun T S hT hS=>?_; (conv=>whnf); refine hT _ _ ?_)
     refine aops_end ?_
     refine hK3 _ _ ?_
     clear hK3 hR3
     iterate 21 (refine aops_step fun T S hT hS=>?_; (conv=>whnf); refine hT _ _ ?_)
     refine aops_end ?_
     refine hK4 _ _ ?_
     clear hK4 hR4
     conv=>whnf
     refine ⟨64-(t+1),F0,by omega,fun c N1 _ _=>⟨_,_,wk_of (by (repeat' apply And.intro)<;>first | trivial | exact ⟨_,rfl,tv_inc (n:=64) ht (by omega),rfl⟩ | exact ⟨_,rfl,rfl,rfl⟩) (by (repeat' apply And.intro)<;>first | trivial | rfl | exact ⟨_,rfl,hblk _ _,rfl⟩ | exact ⟨_,rfl,wrow_blk L 64 _ _ _,wrow_cl L 64 _⟩ | exact ⟨_,rfl,rfl,rfl⟩) (by exact Nat.le_of_ble_eq_true rfl) (by exact Nat.le_of_ble_eq_true rfl),⟨t+1,t0,t1,t2,t3,N1,ht,rfl,rfl,rfl⟩⟩⟩
    | false=>
     obtain rfl:t=64:=by have:=of_decide_eq_false hlt; omega
     conv=>whnf
     refine hK _ _ ?_
     clear hK hR
     have hm:mix L s=add8 s (rounds L s 64):=rfl
     rw [hm]
     clear hm hel
     generalize rounds L s 64=r at *
     refine swp_cut fun K hK hR _=>?_
     refine swp_cut fun K2 hK2 hR2 _=>?_
     conv=>whnf
     refine hK2 _ _ ?_
     clear hK2 hR2
     conv=>whnf
     refine .inl ⟨9,?_⟩
     conv=>whnf
     refine hK _ _ ?_
     clear hK hR
     conv=>whnf
     intro c N2 _ _
     rfl
   ·refine ⟨64,F0,fun c N1 _ _=>⟨_,_,wk_of (by (repeat' apply And.intro)<;>first | trivial | exact ⟨_,rfl,rfl,rfl⟩) (by (repeat' apply And.intro)<;>first | trivial | rfl | exact ⟨_,rfl,rfl,rfl⟩ | exact ⟨_,rfl,wrow_blk L 64 _ _ _,wrow_cl L 64 _⟩) (by exact Nat.le_of_ble_eq_true rfl) (by exact Nat.le_of_ble_eq_true rfl),⟨0,_,_,_,_,N1,by omega,rfl,rfl,rfl⟩⟩⟩
 ·refine ⟨64,F0,fun c N1 _ _=>⟨_,_,wk_of (by (repeat' apply And.intro)<;>first | trivial | exact ⟨_,rfl,rfl,rfl⟩) (by (repeat' apply And.intro)<;>first | trivial | rfl | exact ⟨_,rfl,rfl,rfl⟩ | exact ⟨_,rfl,wrow_blk0 L _ _ _,wrow_cl L 0 _⟩) (by exact Nat.le_of_ble_eq_true rfl) (by exact Nat.le_of_ble_eq_true rfl),⟨0,_,_,_,[],N1,by omega,rfl,rfl,rfl⟩⟩⟩
end Go.Hv
