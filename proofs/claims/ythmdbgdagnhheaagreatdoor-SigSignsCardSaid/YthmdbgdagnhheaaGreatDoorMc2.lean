import Derived.KernelRfl
namespace Go.Nt

theorem pigeon:∀ (n:Nat) (f:Nat→Nat),(∀ i,i<n+1→f i<n)→∃ i j,i<j∧j<n+1∧f i=f j
 | 0,f,h=>absurd (h 0 (by omega)) (by omega)
 | n+1,f,h=>by
  by_cases hm:∃ i,i<n+1∧f i=f (n+1)
  ·obtain ⟨i,hi,he⟩:=hm
   exact ⟨i,n+1,hi,by omega,he⟩
  ·have hne:∀ i,i<n+1→f i≠f (n+1):=fun i hi he=>hm ⟨i,hi,he⟩
   obtain ⟨i,j,hij,hj,he⟩:=pigeon n (fun i=>if f i=n then f (n+1) else f i) (fun i hi=>by
    have h1:=h i (by omega)
    have h2:=h (n+1) (by omega)
    have h3:=hne i hi
    split<;>omega)
   have h1:=hne i (by omega)
   have h2:=hne j hj
   refine ⟨i,j,hij,by omega,?_⟩
   split at he<;>split at he<;>omega

def prodF (f:Nat→Nat):Nat→Nat
 | 0=>1
 | n+1=>prodF f n*f n

theorem prodF_congr {f g:Nat→Nat}:∀ n,(∀ i,i<n→f i=g i)→prodF f n=prodF g n
 | 0,_=>rfl
 | n+1,h=>by
  simp only [prodF]
  rw [prodF_congr n (fun i hi=>h i (by omega)),h n (by omega)]

theorem prodF_upd {f g:Nat→Nat} {j:Nat}:∀ n,j<n→(∀ i,i≠j→f i=g i)→prodF f n*g j=prodF g n*f j
 | 0,h,_=>absurd h (by omega)
 | n+1,h,he=>by
  simp only [prodF]
  by_cases hj:j=n
  ·subst hj
   rw [prodF_congr j (f:=f) (g:=g) (fun i hi=>he i (by omega)),Nat.mul_right_comm]
  ·have:=prodF_upd n (j:=j) (f:=f) (g:=g) (by omega) he
   rw [he n (fun e=>hj e.symm),Nat.mul_right_comm,this,Nat.mul_right_comm]

theorem prodF_perm (g:Nat→Nat):∀ (n:Nat) (f:Nat→Nat),(∀ i,i<n→f i<n)→(∀ i j,i<n→j<n→f i=f j→i=j)→prodF (fun i=>g (f i)) n=prodF g n
 | 0,_,_,_=>rfl
 | n+1,f,hf,hi=>by
  by_cases hn:f n=n
  ·simp only [prodF,hn]
   rw [prodF_perm g n f (fun i h=>by
    have h1:=hf i (by omega)
    have h2:f i≠n:=fun e=>by have:=hi i n (by omega) (by omega) (e.trans hn.symm); omega
    omega) (fun i j h1 h2=>hi i j (by omega) (by omega))]
  ·have hj:∃ j,j<n+1∧f j=n:=by
    by_cases hj:∃ j,j<n+1∧f j=n
    ·exact hj
    ·exfalso
     have hne:∀ j,j<n+1→f j≠n:=fun j h e=>hj ⟨j,h,e⟩
     obtain ⟨i,j,h1,h2,h3⟩:=pigeon n f (fun i h=>by have:=hf i h; have:=hne i h; omega)
     have:=hi i j (by omega) h2 h3
     omega
   obtain ⟨j,hj,hfj⟩:=hj
   have hjn:j≠n:=fun e=>hn (by rw [← e]; exact hfj.trans e.symm)
   have hfn:f n<n:=by have:=hf n (by omega); omega
   have h1:=prodF_perm g n (fun i=>if i=j then f n else f i) (fun i h=>by
    split
    ·exact hfn
    ·rename_i hij
     have h1:=hf i (by omega)
     have h2:f i≠n:=fun e=>hij (hi i j (by omega) (by omega) (e.trans hfj.symm))
     omega) (fun i k h1 h2 he=>by
    split at he<;>split at he
    ·omega
    ·have:=hi n k (by omega) (by omega) he; omega
    ·have:=hi i n (by omega) (by omega) he; omega
    ·exact hi i k (by omega) (by omega) he)
   have h2:=prodF_upd (f:=fun i=>g (f i)) (g:=fun i=>g (if i=j then f n else f i)) (j:=j) n (by omega) (fun i hij=>by simp only [if_neg hij])
   rw [h1] at h2
   simp only [if_true,hfj] at h2
   simp only [prodF]
   exact h2

def Pr (p:Nat):Prop:=2≤p∧∀ d,d ∣ p→d=1∨d=p

theorem Pr.coprime {p a:Nat} (hp:Pr p) (h:¬ p ∣ a):Nat.Coprime p a:=by
 rcases hp.2 _ (Nat.gcd_dvd_left p a) with h1 | h1
 ·exact h1
 ·exact absurd (h1 ▸ Nat.gcd_dvd_right p a) h

theorem Pr.mul {p a b:Nat} (hp:Pr p) (h:p ∣ a*b):p ∣ a∨p ∣ b:=by
 by_cases ha:p ∣ a
 ·exact .inl ha
 ·exact .inr ((hp.coprime ha).dvd_of_dvd_mul_left h)

theorem dvd_of_mod {p a b:Nat} (h:a%p=b%p):p ∣ b-a:=Nat.dvd_of_mod_eq_zero (Nat.sub_mod_eq_zero_of_mod_eq h.symm)

theorem mod_of_dvd {p a b:Nat} (hab:a≤b) (h:p ∣ b-a):a%p=b%p:=by
 obtain ⟨k,hk⟩:=h
 have:b=a+p*k:=by omega
 rw [this,Nat.add_mul_mod_self_left]

theorem mod_cancel {p a b c:Nat} (hp:Nat.Coprime p c) (h:a*c%p=b*c%p):a%p=b%p:=by
 rcases Nat.le_total a b with hab | hab
 ·have:p ∣ (b-a)*c:=by
   rw [Nat.sub_mul]; exact dvd_of_mod h
  have:=hp.dvd_of_dvd_mul_right this
  exact mod_of_dvd hab this
 ·have:p ∣ (a-b)*c:=by
   rw [Nat.sub_mul]; exact dvd_of_mod h.symm
  have:=hp.dvd_of_dvd_mul_right this
  exact (mod_of_dvd hab this).symm

theorem prodF_coprime {p:Nat} (hp:Pr p):∀ n,n<p→Nat.Coprime p (prodF (fun i=>i+1) n)
 | 0,_=>by simp [prodF]
 | n+1,h=>by
  simp only [prodF]
  refine Nat.Coprime.mul_right (prodF_coprime hp n (by omega)) (hp.coprime fun hd=>?_)
  have:=Nat.le_of_dvd (by omega) hd
  omega

theorem prodF_scale (p a:Nat):∀ n,prodF (fun i=>a*(i+1)%p) n%p=a^n*prodF (fun i=>i+1) n%p
 | 0=>by simp [prodF]
 | n+1=>by
  simp only [prodF]
  rw [Nat.mul_mod,prodF_scale p a n,Nat.mod_mod,← Nat.mul_mod,Nat.pow_succ]
  congr 1
  rw [Nat.mul_assoc,Nat.mul_assoc,Nat.mul_left_comm (prodF _ n) a]

theorem fermat {p a:Nat} (hp:Pr p) (ha:¬ p ∣ a):a^(p-1)%p=1:=by
 have hc:=hp.coprime ha
 have h2:=hp.1
 have hne:∀ i,i<p-1→a*(i+1)%p≠0:=fun i hi h0=>by
  rcases hp.mul (Nat.dvd_of_mod_eq_zero h0) with h | h
  ·exact ha h
  ·have:=Nat.le_of_dvd (by omega) h; omega
 have hlt:∀ x,x%p<p:=fun x=>Nat.mod_lt _ (by omega)
 have key:=prodF_perm (fun i=>i+1) (p-1) (fun i=>a*(i+1)%p-1) (fun i hi=>by
  have h1:=hne i hi
  have h3:=hlt (a*(i+1))
  omega) (fun i j hi hj he=>by
  have h1:=hne i hi
  have h3:=hne j hj
  have he:(i+1)*a%p=(j+1)*a%p:=by rw [Nat.mul_comm _ a,Nat.mul_comm _ a]; omega
  have:=mod_cancel hc he
  rw [Nat.mod_eq_of_lt (by omega),Nat.mod_eq_of_lt (by omega)] at this
  omega)
 rw [prodF_congr (p-1) (g:=fun i=>a*(i+1)%p) (fun i hi=>by have:=hne i hi; omega)] at key
 have h:=prodF_scale p a (p-1)
 rw [key] at h
 have h':1*prodF (fun i=>i+1) (p-1)%p=a^(p-1)*prodF (fun i=>i+1) (p-1)%p:=by rw [Nat.one_mul]; exact h
 have:=mod_cancel (prodF_coprime hp (p-1) (by omega)) h'
 rw [← this,Nat.mod_eq_of_lt (by omega)]

theorem pow_mod_one {b r m:Nat} (h:b^m%r=1%r) (k:Nat):b^(m*k)%r=1%r:=by
 rw [Nat.pow_mul,Nat.pow_mod,h,← Nat.pow_mod,Nat.one_pow]

theorem pow_gcd {b r:Nat}:∀ (m n:Nat),b^m%r=1%r→b^n%r=1%r→b^(Nat.gcd m n)%r=1%r:=by
 intro m n
 induction m,n using Nat.gcd.induction with
 | H0 n=>intro _ h; simpa using h
 | H1 m n hm ih=>
  intro h1 h2
  rw [Nat.gcd_rec]
  refine ih ?_ h1
  have e:b^n=b^(m*(n/m))*b^(n%m):=by rw [← Nat.pow_add,Nat.div_add_mod]
  rw [e,Nat.mul_mod,pow_mod_one h1,← Nat.mul_mod,Nat.one_mul] at h2
  exact h2

theorem Pr.factor:∀ (N:Nat),2≤N→∃ r,Pr r∧r ∣ N:=by
 intro N
 induction N using Nat.strongRecOn with
 | ind N ih=>
  intro h2
  by_cases hp:Pr N
  ·exact ⟨N,hp,Nat.dvd_refl N⟩
  ·have:∃ d,d ∣ N∧d≠1∧d≠N:=by
    apply Classical.byContradiction
    intro hn
    refine hp ⟨h2,fun d hd=>?_⟩
    apply Classical.byContradiction
    intro h
    exact hn ⟨d,hd,fun e=>h (.inl e),fun e=>h (.inr e)⟩
   obtain ⟨d,hd,h1,hN⟩:=this
   have hle:=Nat.le_of_dvd (by omega) hd
   have h0:d≠0:=fun e=>by subst e; have:=Nat.eq_zero_of_zero_dvd hd; omega
   obtain ⟨r,hr,hrd⟩:=ih d (by omega) (by omega)
   exact ⟨r,hr,Nat.dvd_trans hrd hd⟩

theorem Pr.of_small {N:Nat} (h2:2≤N) (h:∀ r,Pr r→r ∣ N→¬ r*r≤N):Pr N:=by
 refine ⟨h2,fun d hd=>?_⟩
 apply Classical.byContradiction
 intro hn
 obtain ⟨e,he⟩:=hd
 have key:∀ a b:Nat,N=a*b→a≠1→a≤b→False:=fun a b hab h1 hle=>by
  have ha:a≠0:=fun e=>by subst e; simp at hab; omega
  obtain ⟨r,hr,hrd⟩:=Pr.factor a (by omega)
  have h3:=Nat.le_of_dvd (by omega) hrd
  refine h r hr (Nat.dvd_trans hrd ⟨b,hab⟩) ?_
  rw [hab]
  exact Nat.mul_le_mul h3 (Nat.le_trans h3 hle)
 rcases Nat.le_total d e with hle | hle
 ·exact key d e he (fun h=>hn (.inl h)) hle
 ·refine key e d (by rw [Nat.mul_comm]; exact he) (fun h=>hn (.inr ?_)) hle
  rw [h,Nat.mul_one] at he; exact he.symm

theorem cert {N r q c:Nat} (hr:Pr r) (hd:r ∣ N) (hq:Pr q) (h1:c^q%N=1) (hg:Nat.gcd (c-1) N=1) (_:1≤c):q ∣ r-1:=by
 have hr2:=hr.1
 apply Classical.byContradiction
 intro hn
 have hco:Nat.gcd q (r-1)=1:=hq.coprime hn
 have hcq:c^q%r=1%r:=by
  have:c^q%N%r=1%r:=by rw [h1]
  rwa [Nat.mod_mod_of_dvd _ hd] at this
 have hrc:¬ r ∣ c:=fun h=>by
  have h0:c^q%r=0:=Nat.mod_eq_zero_of_dvd (Nat.dvd_trans h (by
   obtain ⟨k,hk⟩:∃ k,q=k+1:=⟨q-1,by have:=hq.1; omega⟩
   rw [hk,Nat.pow_succ]; exact Nat.dvd_mul_left c (c^k)))
  rw [h0,Nat.mod_eq_of_lt (by omega)] at hcq
  cases hcq
 have hf:=fermat hr hrc
 have h:=pow_gcd q (r-1) hcq (by rw [hf,Nat.mod_eq_of_lt (by omega)])
 rw [hco,Nat.pow_one] at h
 have hdc:r ∣ c-1:=dvd_of_mod h.symm
 have:=Nat.dvd_gcd hdc hd
 rw [hg] at this
 have:=Nat.le_of_dvd (by omega) this
 omega

theorem pock {N F:Nat} (h2:2≤N) (hF:N<F*F) (h:∀ r,Pr r→r ∣ N→F ∣ r-1):Pr N:=by
 refine Pr.of_small h2 fun r hr hd hle=>?_
 have h1:=hr.1
 have h3:=Nat.le_of_dvd (by omega) (h r hr hd)
 have h4:F*F≤r*r:=Nat.mul_le_mul (by omega) (by omega)
 omega

theorem mul_dvd {a b x:Nat} (h:Nat.gcd a b=1) (ha:a ∣ x) (hb:b ∣ x):a*b ∣ x:=Nat.Coprime.mul_dvd_of_dvd_of_dvd h ha hb

def noDiv (N:Nat):Nat→Nat→Bool
 | 0,_=>true
 | k+1,d=>match N%d with
  | 0=>false
  | _=>noDiv N k (d+1)

theorem noDiv_spec {N:Nat}:∀ (k d:Nat),noDiv N k d=true→∀ x,d≤x→x<d+k→¬ x ∣ N
 | 0,d,_,x,h1,h2=>by omega
 | k+1,d,h,x,h1,h2=>by
  unfold noDiv at h
  split at h
  ·cases h
  ·rename_i hne
   by_cases hx:x=d
   ·subst hx
    intro hd
    exact hne (Nat.mod_eq_zero_of_dvd hd)
   ·exact noDiv_spec k (d+1) h x (by omega) (by omega)

theorem Pr.of_trial {N k:Nat} (h2:2≤N) (hk:N<(k+2)*(k+2)) (h:noDiv N k 2=true):Pr N:=by
 refine Pr.of_small h2 fun r hr hd hle=>?_
 have h1:=hr.1
 have:r<k+2:=by
  apply Classical.byContradiction
  intro hn
  have:(k+2)*(k+2)≤r*r:=Nat.mul_le_mul (by omega) (by omega)
  omega
 exact noDiv_spec k 2 h r h1 (by omega) hd

def pmod (M x:Nat):Nat→Nat→Nat
 | 0,_=>1%M
 | k+1,e=>match e%2 with
  | 0=>pmod M x k (e/2)*pmod M x k (e/2)%M
  | _=>pmod M x k (e/2)*pmod M x k (e/2)%M*x%M

theorem pmod_eq (M x:Nat):∀ k e,e<2^k→pmod M x k e=x^e%M
 | 0,e,h=>by
  have:e=0:=by simpa using h
  subst this; rfl
 | k+1,e,h=>by
  have ih:=pmod_eq M x k (e/2) (by rw [Nat.pow_succ] at h; omega)
  unfold pmod
  rw [ih]
  generalize hq:e/2=q
  split
  ·rename_i h0
   have:e=q+q:=by omega
   rw [this,Nat.pow_add,← Nat.mul_mod]
  ·rename_i h0
   have h0:¬ e%2=0:=h0
   have:e=q+q+1:=by omega
   rw [this,Nat.pow_succ,Nat.pow_add,← Nat.mul_mod,Nat.mul_mod (x^q*x^q%M) x,Nat.mod_mod,← Nat.mul_mod]

theorem pow_of_pmod {M x e r:Nat} (k:Nat) (h:pmod M x k e=r) (hk:e<2^k):x^e%M=r:=by rw [← pmod_eq M x k e hk,h]

theorem certp {N r q c:Nat} (k:Nat) (hr:Pr r) (hd:r ∣ N) (hq:Pr q) (h1:pmod N c k q=1) (hk:q<2^k) (hg:Nat.gcd (c-1) N=1) (hc:1≤c):q ∣ r-1:=
 cert hr hd hq (pow_of_pmod k h1 hk) hg hc

end Go.Nt

namespace Go.Nt

theorem pr_53:Pr 53:=.of_trial (k:=7) (by decide) (by decide) (by kernel_rfl)
theorem pr_29:Pr 29:=.of_trial (k:=5) (by decide) (by decide) (by kernel_rfl)
theorem pr_7:Pr 7:=.of_trial (k:=2) (by decide) (by decide) (by kernel_rfl)
theorem pr_107590001:Pr 107590001:=pock (F:=10759) (by decide) (by decide) fun r hr hd=>(mul_dvd (a:=1537) (b:=7) (by kernel_rfl) (mul_dvd (a:=53) (b:=29) (by kernel_rfl) (certp (c:=26896163) 6 hr hd pr_53 (by kernel_rfl) (by decide) (by kernel_rfl) (by decide)) (certp (c:=68236646) 5 hr hd pr_29 (by kernel_rfl) (by decide) (by kernel_rfl) (by decide))) (certp (c:=95730224) 3 hr hd pr_7 (by kernel_rfl) (by decide) (by kernel_rfl) (by decide)))
theorem pr_20113:Pr 20113:=.of_trial (k:=141) (by decide) (by decide) (by kernel_rfl)
theorem pr_1206781:Pr 1206781:=pock (F:=20113) (by decide) (by decide) fun r hr hd=>(certp (c:=78448) 15 hr hd pr_20113 (by kernel_rfl) (by decide) (by kernel_rfl) (by decide))
theorem pr_7240687:Pr 7240687:=pock (F:=1206781) (by decide) (by decide) fun r hr hd=>(certp (c:=64) 21 hr hd pr_1206781 (by kernel_rfl) (by decide) (by kernel_rfl) (by decide))
theorem pr_96557:Pr 96557:=.of_trial (k:=310) (by decide) (by decide) (by kernel_rfl)
theorem prB8:Pr 255515944373312847190720520512484175977:=pock (F:=75220367286300824659) (by decide) (by decide) fun r hr hd=>(mul_dvd (a:=779025521570687) (b:=96557) (by kernel_rfl) (mul_dvd (a:=107590001) (b:=7240687) (by kernel_rfl) (certp (c:=82381214149343919061612748413412685903) 27 hr hd pr_107590001 (by kernel_rfl) (by decide) (by kernel_rfl) (by decide)) (certp (c:=111233916942653821000329437866037388564) 23 hr hd pr_7240687 (by kernel_rfl) (by decide) (by kernel_rfl) (by decide))) (certp (c:=47418180093458530687350227428022525796) 17 hr hd pr_96557 (by kernel_rfl) (by decide) (by kernel_rfl) (by decide)))
theorem prB9:Pr 205115282021455665897114700593932402728804164701536103180137503955397371:=pock (F:=255515944373312847190720520512484175977) (by decide) (by decide) fun r hr hd=>(certp (c:=53072002638256206696760401718638995221936714922431175139555783581918754) 128 hr hd prB8 (by kernel_rfl) (by decide) (by kernel_rfl) (by decide))
theorem prB10:Pr 115792089237316195423570985008687907853269984665640564039457584007908834671663:=pock (F:=205115282021455665897114700593932402728804164701536103180137503955397371) (by decide) (by decide) fun r hr hd=>(certp (c:=30133174243114333125352536507925183895021889065932097717961225114769139489296) 237 hr hd prB9 (by kernel_rfl) (by decide) (by kernel_rfl) (by decide))
theorem pr_1871:Pr 1871:=.of_trial (k:=43) (by decide) (by decide) (by kernel_rfl)
theorem pr_1627771:Pr 1627771:=pock (F:=1871) (by decide) (by decide) fun r hr hd=>(certp (c:=910796) 11 hr hd pr_1871 (by kernel_rfl) (by decide) (by kernel_rfl) (by decide))
theorem pr_297159362677:Pr 297159362677:=pock (F:=1627771) (by decide) (by decide) fun r hr hd=>(certp (c:=114170894341) 21 hr hd pr_1627771 (by kernel_rfl) (by decide) (by kernel_rfl) (by decide))
theorem pr_28181:Pr 28181:=.of_trial (k:=167) (by decide) (by decide) (by kernel_rfl)
theorem pr_545358713:Pr 545358713:=pock (F:=28181) (by decide) (by decide) fun r hr hd=>(certp (c:=420071726) 15 hr hd pr_28181 (by kernel_rfl) (by decide) (by kernel_rfl) (by decide))
theorem prB16:Pr 29047611873442575647497758179:=pock (F:=162058447585428954701) (by decide) (by decide) fun r hr hd=>(mul_dvd (a:=297159362677) (b:=545358713) (by kernel_rfl) (certp (c:=16062460713643416818883781819) 39 hr hd pr_297159362677 (by kernel_rfl) (by decide) (by kernel_rfl) (by decide)) (certp (c:=1548700731856248688196814844) 30 hr hd pr_545358713 (by kernel_rfl) (by decide) (by kernel_rfl) (by decide)))
theorem prB17:Pr 341948486974166000522343609283189:=pock (F:=29047611873442575647497758179) (by decide) (by decide) fun r hr hd=>(certp (c:=291782875431971620014836968593543) 95 hr hd prB16 (by kernel_rfl) (by decide) (by kernel_rfl) (by decide))
theorem pr_9349:Pr 9349:=.of_trial (k:=96) (by decide) (by decide) (by kernel_rfl)
theorem pr_44706919:Pr 44706919:=pock (F:=9349) (by decide) (by decide) fun r hr hd=>(certp (c:=24793509) 14 hr hd pr_9349 (by kernel_rfl) (by decide) (by kernel_rfl) (by decide))
theorem pr_120233:Pr 120233:=.of_trial (k:=346) (by decide) (by decide) (by kernel_rfl)
theorem prB21:Pr 174723607534414371449:=pock (F:=5375246992127) (by decide) (by decide) fun r hr hd=>(mul_dvd (a:=44706919) (b:=120233) (by kernel_rfl) (certp (c:=69188669156729060297) 26 hr hd pr_44706919 (by kernel_rfl) (by decide) (by kernel_rfl) (by decide)) (certp (c:=97784642313376440036) 17 hr hd pr_120233 (by kernel_rfl) (by decide) (by kernel_rfl) (by decide)))
theorem prB22:Pr 115792089237316195423570985008687907852837564279074904382605163141518161494337:=pock (F:=59746473235060985162263246577491932178200490877270861) (by decide) (by decide) fun r hr hd=>(mul_dvd (a:=341948486974166000522343609283189) (b:=174723607534414371449) (by kernel_rfl) (certp (c:=86644313145397489891193855759928671818841495415153161568930588450251036589538) 109 hr hd prB17 (by kernel_rfl) (by decide) (by kernel_rfl) (by decide)) (certp (c:=58138579787377535003503259606714116115479494849592057519620557805018937774448) 68 hr hd prB21 (by kernel_rfl) (by decide) (by kernel_rfl) (by decide)))

theorem prime_p:Pr 115792089237316195423570985008687907853269984665640564039457584007908834671663:=prB10
theorem prime_n:Pr 115792089237316195423570985008687907852837564279074904382605163141518161494337:=prB22

end Go.Nt

namespace Go.Ec
section
variable {p:Nat} [NeZero p]

def cX (x1 y1 z1 x2 y2 z2:Fin p):Fin p:=(x1*y2+x2*y1)*(y1*y2-21*(z1*z2))-21*(y1*z2+y2*z1)*(x1*z2+x2*z1)
def cY (x1 y1 z1 x2 y2 z2:Fin p):Fin p:=(y1*y2+21*(z1*z2))*(y1*y2-21*(z1*z2))+63*(x1*x2)*(x1*z2+x2*z1)
def cZ (x1 y1 z1 x2 y2 z2:Fin p):Fin p:=(y1*z2+y2*z1)*(y1*y2+21*(z1*z2))+3*(x1*x2)*(x1*y2+x2*y1)

theorem c_on {x1 y1 x2 y2:Fin p} (h1:y1*y1=x1*x1*x1+7) (h2:y2*y2=x2*x2*x2+7) :
  cY x1 y1 1 x2 y2 1*cY x1 y1 1 x2 y2 1*cZ x1 y1 1 x2 y2 1=cX x1 y1 1 x2 y2 1*cX x1 y1 1 x2 y2 1*cX x1 y1 1 x2 y2 1+7*(cZ x1 y1 1 x2 y2 1*cZ x1 y1 1 x2 y2 1*cZ x1 y1 1 x2 y2 1):=by
 unfold cX cY cZ
 grind

theorem c_comm (x1 y1 z1 x2 y2 z2:Fin p):cX x1 y1 z1 x2 y2 z2=cX x2 y2 z2 x1 y1 z1∧cY x1 y1 z1 x2 y2 z2=cY x2 y2 z2 x1 y1 z1∧cZ x1 y1 z1 x2 y2 z2=cZ x2 y2 z2 x1 y1 z1:=by
 unfold cX cY cZ
 refine ⟨by grind,by grind,by grind⟩

end
end Go.Ec

namespace Go.Ec
section
variable {p:Nat} [NeZero p]

theorem p_pos:0<p:=Nat.pos_of_ne_zero (NeZero.ne p)

def toK (z:Int):Fin p:=⟨(z%(p:Int)).toNat,by
 have h:0<p:=p_pos
 have:=Int.emod_nonneg z (b:=(p:Int)) (by omega)
 have:=Int.emod_lt_of_pos z (b:=(p:Int)) (by omega)
 omega⟩

theorem toK_val (z:Int):((toK (p:=p) z).val:Int)=z%(p:Int):=by
 have h:0<p:=p_pos
 have:=Int.emod_nonneg z (b:=(p:Int)) (by omega)
 simp only [toK]; omega

theorem toK_eq {x y:Int}:(toK x:Fin p)=toK y↔x%(p:Int)=y%(p:Int):=by
 rw [← toK_val x,← toK_val y]
 exact ⟨fun h=>by rw [h],fun h=>Fin.ext (by omega)⟩

theorem toK_add (x y:Int):(toK (x+y):Fin p)=toK x+toK y:=by
 apply Fin.ext
 have h1:=toK_val (p:=p) x
 have h2:=toK_val (p:=p) y
 have h3:=toK_val (p:=p) (x+y)
 have:(((toK x+toK y:Fin p).val:Nat):Int)=(x+y)%(p:Int):=by
  rw [Fin.val_add]
  push_cast
  rw [h1,h2,← Int.add_emod]
 omega

theorem toK_mul (x y:Int):(toK (x*y):Fin p)=toK x*toK y:=by
 apply Fin.ext
 have h1:=toK_val (p:=p) x
 have h2:=toK_val (p:=p) y
 have h3:=toK_val (p:=p) (x*y)
 have:(((toK x*toK y:Fin p).val:Nat):Int)=(x*y)%(p:Int):=by
  rw [Fin.val_mul]
  push_cast
  rw [h1,h2,← Int.mul_emod]
 omega

theorem toK_zero:(toK 0:Fin p)=0:=by
 apply Fin.ext
 have h3:=toK_val (p:=p) 0
 simp at h3 ⊢
 omega

theorem toK_neg (x:Int):(toK (-x):Fin p) = -toK x:=by
 have h:(toK (-x):Fin p)+toK x=0:=by rw [← toK_add,Int.add_left_neg,toK_zero]
 grind

structure Ops (R:Type) where
 int:Int→R
 add:R→R→R
 neg:R→R
 mul:R→R→R
 isZ:R→Bool

structure Hom {R:Type} (o:Ops R) (ev:R→Fin p):Prop where
 int:∀ z,ev (o.int z)=toK z
 add:∀ a b,ev (o.add a b)=ev a+ev b
 neg:∀ a,ev (o.neg a) = -ev a
 mul:∀ a b,ev (o.mul a b)=ev a*ev b
 isZ:∀ a,o.isZ a=true→ev a=0

def intO:Ops Int:=⟨id,Int.add,Int.neg,Int.mul,fun z=>match z with
 | .ofNat 0=>true
 | _=>false⟩

theorem intH:Hom (p:=p) intO toK:=⟨fun _=>rfl,toK_add,toK_neg,toK_mul,fun a h=>by
 simp only [intO] at h
 split at h
 ·exact toK_zero
 ·cases h⟩

section
variable {R:Type} (o:Ops R) (ev:R→Fin p)

def ladd:List R→List R→List R
 | [],q=>q
 | a::p,[]=>a::p
 | a::p,b::q=>o.add a b::ladd p q

def lscale (c:R):List R→List R
 | []=>[]
 | a::l=>o.mul c a::lscale c l

def lneg:List R→List R
 | []=>[]
 | a::l=>o.neg a::lneg l

def lmul:List R→List R→List R
 | [],_=>[]
 | a::l,q=>match o.isZ a with
  | true=>match lmul l q with
   | []=>[]
   | r=>o.int 0::r
  | false=>ladd o (lscale o a q) (match lmul l q with
   | []=>[]
   | r=>o.int 0::r)

def lisZ:List R→Bool
 | []=>true
 | a::l=>match o.isZ a with
  | true=>lisZ l
  | false=>false

def lev (x:Fin p):List R→Fin p
 | []=>0
 | a::l=>ev a+x*lev x l

def listO:Ops (List R):=⟨fun z=>[o.int z],ladd o,lneg o,lmul o,lisZ o⟩

variable {o ev}

theorem ladd_ev (h:Hom o ev) (x:Fin p):∀ a b,lev ev x (ladd o a b)=lev ev x a+lev ev x b
 | [],q=>by simp only [ladd,lev]; grind
 | a::l,[]=>by simp only [ladd,lev]; grind
 | a::l,b::q=>by
  simp only [ladd,lev,h.add,ladd_ev h x l q]
  grind

theorem lscale_ev (h:Hom o ev) (x:Fin p) (c:R):∀ a,lev ev x (lscale o c a)=ev c*lev ev x a
 | []=>by simp only [lscale,lev]; grind
 | a::l=>by
  simp only [lscale,lev,h.mul,lscale_ev h x c l]
  grind

theorem lneg_ev (h:Hom o ev) (x:Fin p):∀ a,lev ev x (lneg o a) = -lev ev x a
 | []=>by simp only [lneg,lev]; grind
 | a::l=>by
  simp only [lneg,lev,h.neg,lneg_ev h x l]
  grind

theorem lshift_ev (h:Hom o ev) (x:Fin p) (r:List R):lev ev x (match r with
  | []=>[]
  | r=>o.int 0::r)=x*lev ev x r:=by
 cases r with
 | nil=>simp only [lev]; grind
 | cons a l=>simp only [lev,h.int,toK_zero]; grind

theorem lmul_ev (h:Hom o ev) (x:Fin p):∀ a b,lev ev x (lmul o a b)=lev ev x a*lev ev x b
 | [],q=>by simp only [lmul,lev]; grind
 | a::l,q=>by
  have ih:=lmul_ev h x l q
  simp only [lmul]
  split
  ·rename_i hz
   have hz:=h.isZ a hz
   rw [lshift_ev h x,ih]
   simp only [lev,hz]
   grind
  ·rw [ladd_ev h x,lscale_ev h x,lshift_ev h x,ih]
   simp only [lev]
   grind

theorem lisZ_ev (h:Hom o ev) (x:Fin p):∀ a,lisZ o a=true→lev ev x a=0
 | [],_=>rfl
 | a::l,hz=>by
  simp only [lisZ] at hz
  split at hz
  ·rename_i ha
   simp only [lev,h.isZ a ha,lisZ_ev h x l hz]
   grind
  ·cases hz

theorem listH (h:Hom o ev) (x:Fin p):Hom (listO o) (lev ev x):=
 ⟨fun z=>by simp only [listO,lev,h.int]; grind,ladd_ev h x,lneg_ev h x,lmul_ev h x,lisZ_ev h x⟩

variable (o)

def quadO (t:R):Ops (R×R):=⟨fun z=>(o.int z,o.int 0),fun a b=>(o.add a.1 b.1,o.add a.2 b.2),fun a=>(o.neg a.1,o.neg a.2),
 fun a b=>match o.isZ a.2,o.isZ b.2 with
  | true,true=>(o.mul a.1 b.1,o.int 0)
  | true,false=>(o.mul a.1 b.1,o.mul a.1 b.2)
  | false,true=>(o.mul a.1 b.1,o.mul a.2 b.1)
  | false,false=>(o.add (o.mul a.1 b.1) (o.mul (o.mul a.2 b.2) t),o.add (o.mul a.1 b.2) (o.mul a.2 b.1)),
 fun a=>o.isZ a.1&&o.isZ a.2⟩

variable {o}

def qev (ev:R→Fin p) (y:Fin p) (a:R×R):Fin p:=ev a.1+ev a.2*y

theorem quadH (h:Hom o ev) {t:R} {y:Fin p} (ht:y*y=ev t):Hom (quadO o t) (qev ev y):=by
 refine ⟨fun z=>?_,fun a b=>?_,fun a=>?_,fun a b=>?_,fun a hz=>?_⟩
 ·simp only [quadO,qev,h.int,toK_zero]; grind
 ·simp only [quadO,qev,h.add]; grind
 ·simp only [quadO,qev,h.neg]; grind
 ·simp only [quadO]
  split
  ·rename_i h1 h2
   simp only [qev,h.mul,h.int,h.isZ _ h1,h.isZ _ h2,toK_zero]; grind
  ·rename_i h1 h2
   simp only [qev,h.mul,h.isZ _ h1]; grind
  ·rename_i h1 h2
   simp only [qev,h.mul,h.isZ _ h2]; grind
  ·simp only [qev,h.mul,h.add,← ht]; grind
 ·simp only [quadO,Bool.and_eq_true] at hz
  simp only [qev,h.isZ _ hz.1,h.isZ _ hz.2]; grind

variable (o)
def oX (x1 y1 z1 x2 y2 z2:R):R:=o.add (o.mul (o.add (o.mul x1 y2) (o.mul x2 y1)) (o.add (o.mul y1 y2) (o.neg (o.mul (o.int 21) (o.mul z1 z2))))) (o.neg (o.mul (o.mul (o.int 21) (o.add (o.mul y1 z2) (o.mul y2 z1))) (o.add (o.mul x1 z2) (o.mul x2 z1))))
def oY (x1 y1 z1 x2 y2 z2:R):R:=o.add (o.mul (o.add (o.mul y1 y2) (o.mul (o.int 21) (o.mul z1 z2))) (o.add (o.mul y1 y2) (o.neg (o.mul (o.int 21) (o.mul z1 z2))))) (o.mul (o.mul (o.int 63) (o.mul x1 x2)) (o.add (o.mul x1 z2) (o.mul x2 z1)))
def oZ (x1 y1 z1 x2 y2 z2:R):R:=o.add (o.mul (o.add (o.mul y1 z2) (o.mul y2 z1)) (o.add (o.mul y1 y2) (o.mul (o.int 21) (o.mul z1 z2)))) (o.mul (o.mul (o.int 3) (o.mul x1 x2)) (o.add (o.mul x1 y2) (o.mul x2 y1)))
variable {o}

theorem toK_nat (n:Nat):(toK (n:Int):Fin p)=Fin.ofNat p n:=by
 apply Fin.ext
 have:=toK_val (p:=p) (n:Int)
 simp only [Fin.val_ofNat]
 omega

theorem k21:(toK 21:Fin p)=21:=toK_nat 21
theorem k63:(toK 63:Fin p)=63:=toK_nat 63
theorem k3:(toK 3:Fin p)=3:=toK_nat 3
theorem k7:(toK 7:Fin p)=7:=toK_nat 7
theorem k1:(toK 1:Fin p)=1:=toK_nat 1

theorem oX_ev (h:Hom o ev) (a b c d e f:R):ev (oX o a b c d e f)=cX (ev a) (ev b) (ev c) (ev d) (ev e) (ev f):=by
 simp only [oX,cX,h.add,h.mul,h.neg,h.int,k21]
 try grind
theorem oY_ev (h:Hom o ev) (a b c d e f:R):ev (oY o a b c d e f)=cY (ev a) (ev b) (ev c) (ev d) (ev e) (ev f):=by
 simp only [oY,cY,h.add,h.mul,h.neg,h.int,k21,k63]
 try grind
theorem oZ_ev (h:Hom o ev) (a b c d e f:R):ev (oZ o a b c d e f)=cZ (ev a) (ev b) (ev c) (ev d) (ev e) (ev f):=by
 simp only [oZ,cZ,h.add,h.mul,h.int,k21,k3]
 try grind

end

def o1:=listO intO
def o2:=listO o1
def o3:=listO o2
abbrev R3:=List (List (List Int))
def vx1:R3:=[[[0,1]]]
def vx2:R3:=[[[],[1]]]
def vx3:R3:=[[],[[1]]]
def cube7 (v:R3):R3:=o3.add (o3.mul v (o3.mul v v)) (o3.int 7)
def q1:=quadO o3 (cube7 vx1)
def q2:=quadO q1 (cube7 vx2,o3.int 0)
def q3:=quadO q2 ((cube7 vx3,o3.int 0),(o3.int 0,o3.int 0))
abbrev Q3:=((R3×R3)×(R3×R3))×((R3×R3)×(R3×R3))
def z0:R3:=[]
def lift (v:R3):Q3:=(((v,z0),(z0,z0)),((z0,z0),(z0,z0)))
def X1:Q3:=lift vx1
def X2:Q3:=lift vx2
def X3:Q3:=lift vx3
def one3:R3:=[[[1]]]
def Y1:Q3:=(((z0,one3),(z0,z0)),((z0,z0),(z0,z0)))
def Y2:Q3:=(((z0,z0),(one3,z0)),((z0,z0),(z0,z0)))
def Y3:Q3:=(((z0,z0),(z0,z0)),((one3,z0),(z0,z0)))
def I3:Q3:=lift one3

def aX:=oX q3 X1 Y1 I3 X2 Y2 I3
def aY:=oY q3 X1 Y1 I3 X2 Y2 I3
def aZ:=oZ q3 X1 Y1 I3 X2 Y2 I3
def bX:=oX q3 X2 Y2 I3 X3 Y3 I3
def bY:=oY q3 X2 Y2 I3 X3 Y3 I3
def bZ:=oZ q3 X2 Y2 I3 X3 Y3 I3
def lX:=oX q3 aX aY aZ X3 Y3 I3
def lY:=oY q3 aX aY aZ X3 Y3 I3
def lZ:=oZ q3 aX aY aZ X3 Y3 I3
def rX:=oX q3 X1 Y1 I3 bX bY bZ
def rY:=oY q3 X1 Y1 I3 bX bY bZ
def rZ:=oZ q3 X1 Y1 I3 bX bY bZ

theorem checkX:q3.isZ (q3.add (q3.mul lX rZ) (q3.neg (q3.mul rX lZ)))=true:=by kernel_rfl

theorem checkY:q3.isZ (q3.add (q3.mul lY rZ) (q3.neg (q3.mul rY lZ)))=true:=by kernel_rfl

theorem c_assoc {x1 y1 x2 y2 x3 y3:Fin p} (h1:y1*y1=x1*x1*x1+7) (h2:y2*y2=x2*x2*x2+7) (h3:y3*y3=x3*x3*x3+7) :
  cX (cX x1 y1 1 x2 y2 1) (cY x1 y1 1 x2 y2 1) (cZ x1 y1 1 x2 y2 1) x3 y3 1*cZ x1 y1 1 (cX x2 y2 1 x3 y3 1) (cY x2 y2 1 x3 y3 1) (cZ x2 y2 1 x3 y3 1) =
   cX x1 y1 1 (cX x2 y2 1 x3 y3 1) (cY x2 y2 1 x3 y3 1) (cZ x2 y2 1 x3 y3 1)*cZ (cX x1 y1 1 x2 y2 1) (cY x1 y1 1 x2 y2 1) (cZ x1 y1 1 x2 y2 1) x3 y3 1 ∧
  cY (cX x1 y1 1 x2 y2 1) (cY x1 y1 1 x2 y2 1) (cZ x1 y1 1 x2 y2 1) x3 y3 1*cZ x1 y1 1 (cX x2 y2 1 x3 y3 1) (cY x2 y2 1 x3 y3 1) (cZ x2 y2 1 x3 y3 1) =
   cY x1 y1 1 (cX x2 y2 1 x3 y3 1) (cY x2 y2 1 x3 y3 1) (cZ x2 y2 1 x3 y3 1)*cZ (cX x1 y1 1 x2 y2 1) (cY x1 y1 1 x2 y2 1) (cZ x1 y1 1 x2 y2 1) x3 y3 1:=by
 have e3:Hom o3 (lev (lev (lev toK x1) x2) x3):=listH (listH (listH intH x1) x2) x3
 have v0:lev (lev (lev (toK (p:=p)) x1) x2) x3 z0=0:=rfl
 have vo:lev (lev (lev (toK (p:=p)) x1) x2) x3 one3=1:=by simp only [one3,lev,k1]; grind
 have v1:lev (lev (lev (toK (p:=p)) x1) x2) x3 vx1=x1:=by simp only [vx1,lev,k1,toK_zero]; grind
 have v2:lev (lev (lev (toK (p:=p)) x1) x2) x3 vx2=x2:=by simp only [vx2,lev,k1]; grind
 have v3:lev (lev (lev (toK (p:=p)) x1) x2) x3 vx3=x3:=by simp only [vx3,lev,k1]; grind
 generalize lev (lev (lev (toK (p:=p)) x1) x2) x3=ev at *
 have c7:∀ v,ev (cube7 v)=ev v*(ev v*ev v)+7:=fun v=>by simp only [cube7,e3.add,e3.mul,e3.int,k7]
 have i0:ev (o3.int 0)=0:=by rw [e3.int,toK_zero]
 have hq1:Hom q1 (qev ev y1):=quadH e3 (by rw [c7,v1,h1]; grind)
 have hq2:Hom q2 (qev (qev ev y1) y2):=quadH hq1 (by simp only [qev,c7,v2,i0,h2]; grind)
 have hq3:Hom q3 (qev (qev (qev ev y1) y2) y3):=quadH hq2 (by simp only [qev,c7,v3,i0,h3]; grind)
 have w1:qev (qev (qev ev y1) y2) y3 X1=x1:=by simp only [qev,X1,lift,v0,v1]; grind
 have w2:qev (qev (qev ev y1) y2) y3 X2=x2:=by simp only [qev,X2,lift,v0,v2]; grind
 have w3:qev (qev (qev ev y1) y2) y3 X3=x3:=by simp only [qev,X3,lift,v0,v3]; grind
 have w4:qev (qev (qev ev y1) y2) y3 Y1=y1:=by simp only [qev,Y1,v0,vo]; grind
 have w5:qev (qev (qev ev y1) y2) y3 Y2=y2:=by simp only [qev,Y2,v0,vo]; grind
 have w6:qev (qev (qev ev y1) y2) y3 Y3=y3:=by simp only [qev,Y3,v0,vo]; grind
 have w7:qev (qev (qev ev y1) y2) y3 I3=1:=by simp only [qev,I3,lift,v0,vo]; grind
 generalize qev (qev (qev ev y1) y2) y3=ew at *
 have kx:=hq3.isZ _ checkX
 have ky:=hq3.isZ _ checkY
 simp only [hq3.add,hq3.mul,hq3.neg,lX,lY,lZ,rX,rY,rZ,aX,aY,aZ,bX,bY,bZ,oX_ev hq3,oY_ev hq3,oZ_ev hq3,w1,w2,w3,w4,w5,w6,w7] at kx ky
 constructor
 ·generalize cX (cX x1 y1 1 x2 y2 1) (cY x1 y1 1 x2 y2 1) (cZ x1 y1 1 x2 y2 1) x3 y3 1*cZ x1 y1 1 (cX x2 y2 1 x3 y3 1) (cY x2 y2 1 x3 y3 1) (cZ x2 y2 1 x3 y3 1)=A at *
  generalize cX x1 y1 1 (cX x2 y2 1 x3 y3 1) (cY x2 y2 1 x3 y3 1) (cZ x2 y2 1 x3 y3 1)*cZ (cX x1 y1 1 x2 y2 1) (cY x1 y1 1 x2 y2 1) (cZ x1 y1 1 x2 y2 1) x3 y3 1=B at *
  grind
 ·generalize cY (cX x1 y1 1 x2 y2 1) (cY x1 y1 1 x2 y2 1) (cZ x1 y1 1 x2 y2 1) x3 y3 1*cZ x1 y1 1 (cX x2 y2 1 x3 y3 1) (cY x2 y2 1 x3 y3 1) (cZ x2 y2 1 x3 y3 1)=A at *
  generalize cY x1 y1 1 (cX x2 y2 1 x3 y3 1) (cY x2 y2 1 x3 y3 1) (cZ x2 y2 1 x3 y3 1)*cZ (cX x1 y1 1 x2 y2 1) (cY x1 y1 1 x2 y2 1) (cZ x1 y1 1 x2 y2 1) x3 y3 1=B at *
  grind

end
end Go.Ec

namespace Go.Ec
section
variable {p:Nat} [NeZero p]

structure Fld (p:Nat) [NeZero p]:Prop where
 inv:∀ a:Fin p,a≠0→∃ b,a*b=1
 one:(1:Fin p)≠0
 two:(2:Fin p)≠0
 three:(3:Fin p)≠0
 nt:∀ x:Fin p,x*x*x+7≠0

variable (F:Fld p)
include F

theorem Fld.nz {a b:Fin p} (h:a*b=0) (ha:a≠0):b=0:=by
 obtain ⟨c,hc⟩:=F.inv a ha
 have:b=c*(a*b):=by grind
 rw [this,h]; grind

theorem Fld.mul {a b:Fin p} (ha:a≠0) (hb:b≠0):a*b≠0:=fun h=>hb (F.nz h ha)

theorem Fld.y0 {x y:Fin p} (h:y*y=x*x*x+7):y≠0:=fun h0=>F.nt x (by rw [← h,h0]; grind)

omit F in
theorem chord_on {x1 y1 x2 y2 e s:Fin p} (h1:y1*y1=x1*x1*x1+7) (h2:y2*y2=x2*x2*x2+7) (he:(x2-x1)*e=1) (hs:s=(y2-y1)*e) :
  (s*(x1-(s*s-x1-x2))-y1)*(s*(x1-(s*s-x1-x2))-y1)=(s*s-x1-x2)*(s*s-x1-x2)*(s*s-x1-x2)+7:=by
 have hs':s*(x2-x1)=y2-y1:=by rw [hs]; grind
 clear hs
 grind

omit F in
theorem tangent_on {x y e s:Fin p} (h:y*y=x*x*x+7) (he:(y+y)*e=1) (hs:s=(x*x+(x*x+x*x))*e) :
  (s*(x-(s*s-x-x))-y)*(s*(x-(s*s-x-x))-y)=(s*s-x-x)*(s*s-x-x)*(s*s-x-x)+7:=by
 have hs':s*(y+y)=3*(x*x):=by rw [hs]; grind
 clear hs
 grind

omit F in
theorem chord_eq {x1 y1 x2 y2 e s:Fin p} (h1:y1*y1=x1*x1*x1+7) (h2:y2*y2=x2*x2*x2+7) (he:(x2-x1)*e=1) (hs:s=(y2-y1)*e) :
  cX x1 y1 1 x2 y2 1=cZ x1 y1 1 x2 y2 1*(s*s-x1-x2)∧cY x1 y1 1 x2 y2 1=cZ x1 y1 1 x2 y2 1*(s*(x1-(s*s-x1-x2))-y1):=by
 have hs':s*(x2-x1)=y2-y1:=by rw [hs]; grind
 clear hs
 unfold cX cY cZ
 constructor<;>grind

omit F in
theorem tangent_eq {x y e s:Fin p} (h:y*y=x*x*x+7) (he:(y+y)*e=1) (hs:s=(x*x+(x*x+x*x))*e) :
  cX x y 1 x y 1=cZ x y 1 x y 1*(s*s-x-x)∧cY x y 1 x y 1=cZ x y 1 x y 1*(s*(x-(s*s-x-x))-y)∧cZ x y 1 x y 1=8*(y*y*y):=by
 have hs':s*(y+y)=3*(x*x):=by rw [hs]; grind
 clear hs
 unfold cX cY cZ
 refine ⟨?_,?_,?_⟩<;>grind

theorem cZ_ne {x1 y1 x2 y2:Fin p} (h1:y1*y1=x1*x1*x1+7) (h2:y2*y2=x2*x2*x2+7) (hx:x1≠x2):cZ x1 y1 1 x2 y2 1≠0:=by
 intro hz
 have hd:x2-x1≠0:=fun h=>hx (by grind)
 obtain ⟨e,he⟩:=F.inv _ hd
 have h2':(-y2)*(-y2)=x2*x2*x2+7:=by grind
 have hon:=chord_on h1 h2' he rfl
 have hW:((-y2-y1)*e)*(x1-(((-y2-y1)*e)*((-y2-y1)*e)-x1-x2))-y1=0:=by
  have hs':((-y2-y1)*e)*(x2-x1) = -y2-y1:=by grind
  generalize (-y2-y1)*e=s at *
  unfold cZ at hz
  have k:(x2-x1)*(x2-x1)*(x2-x1)*(s*(x1-(s*s-x1-x2))-y1)=0:=by grind
  exact F.nz k (F.mul (F.mul hd hd) hd)
 rw [hW] at hon
 exact F.nt _ (by rw [← hon]; grind)

end
end Go.Ec

namespace Go.Ec
section
variable {p:Nat} [NeZero p]

structure Good (X Y Z:Fin p):Prop where
 inf:Z=0→X=0∧Y≠0

variable (F:Fld p)
include F

theorem c_good {x1 y1 x2 y2:Fin p} (h1:y1*y1=x1*x1*x1+7) (h2:y2*y2=x2*x2*x2+7):Good (cX x1 y1 1 x2 y2 1) (cY x1 y1 1 x2 y2 1) (cZ x1 y1 1 x2 y2 1):=by
 refine ⟨fun hz=>?_⟩
 by_cases hx:x1=x2
 ·subst hx
  have hy:(y1-y2)*(y1+y2)=0:=by grind
  have hy1:=F.y0 h1
  have h2y:y1+y1≠0:=by
   have:=F.mul F.two hy1
   intro h; exact this (by grind)
  obtain ⟨e,he⟩:=F.inv _ h2y
  by_cases hs:y1=y2
  ·subst hs
   have:=(tangent_eq h1 he rfl).2.2
   exfalso
   have h8:(8:Fin p)*(y1*y1*y1)≠0:=by
    have h2:=F.two
    have:(8:Fin p)=2*2*2:=by grind
    rw [this]
    exact F.mul (F.mul (F.mul h2 h2) h2) (F.mul (F.mul hy1 hy1) hy1)
   exact h8 (by rw [← this]; exact hz)
  ·have hs':y1-y2≠0:=fun h=>hs (by grind)
   have hn:y2 = -y1:=by
    have:=F.nz hy hs'
    grind
   subst hn
   refine ⟨by unfold cX; grind,fun hY=>?_⟩
   have hon:=tangent_on h1 he rfl
   have h0:((x1*x1+(x1*x1+x1*x1))*e)*(x1-(((x1*x1+(x1*x1+x1*x1))*e)*((x1*x1+(x1*x1+x1*x1))*e)-x1-x1))-y1=0:=by
    have hs2:((x1*x1+(x1*x1+x1*x1))*e)*(y1+y1)=3*(x1*x1):=by grind
    generalize (x1*x1+(x1*x1+x1*x1))*e=s at *
    unfold cY at hY
    have k:(y1+y1)*(y1+y1)*(y1+y1)*(s*(x1-(s*s-x1-x1))-y1)=0:=by grind
    exact F.nz k (F.mul (F.mul h2y h2y) h2y)
   rw [h0] at hon
   exact F.nt _ (by rw [← hon]; grind)
 ·exact absurd hz (cZ_ne F h1 h2 hx)

abbrev Pt (p:Nat):=Option (Fin p×Fin p)

omit F in
def On:Pt p→Prop
 | none=>True
 | some (x,y)=>y*y=x*x*x+7

omit F in
def tri:Pt p→Fin p×Fin p×Fin p
 | none=>(0,1,0)
 | some (x,y)=>(x,y,1)

omit F in
open Classical in
noncomputable def kinv (a:Fin p):Fin p:=if h:∃ b,a*b=1 then h.choose else 0

theorem Fld.mul_inv {a:Fin p} (ha:a≠0):a*kinv a=1:=by
 have h:=F.inv a ha
 unfold kinv
 rw [dif_pos h]
 exact h.choose_spec

theorem Fld.inv_of {a b:Fin p} (h:a*b=1):kinv a=b:=by
 have ha:a≠0:=fun h0=>F.one (by rw [← h,h0]; grind)
 have h2:=F.mul_inv ha
 grind

omit F in
noncomputable def nrm (X Y Z:Fin p):Pt p:=if Z=0 then none else some (X*kinv Z,Y*kinv Z)

omit F in
noncomputable def add (P Q:Pt p):Pt p:=
 nrm (cX (tri P).1 (tri P).2.1 (tri P).2.2 (tri Q).1 (tri Q).2.1 (tri Q).2.2) (cY (tri P).1 (tri P).2.1 (tri P).2.2 (tri Q).1 (tri Q).2.1 (tri Q).2.2)
  (cZ (tri P).1 (tri P).2.1 (tri P).2.2 (tri Q).1 (tri Q).2.1 (tri Q).2.2)

omit F in
def neg:Pt p→Pt p
 | none=>none
 | some (x,y)=>some (x,-y)

theorem nrm_scale {X Y Z k:Fin p} (hk:k≠0):nrm (k*X) (k*Y) (k*Z)=nrm X Y Z:=by
 unfold nrm
 by_cases hz:Z=0
 ·subst hz
  have:k*0=0:=by grind
  rw [if_pos this,if_pos rfl]
 ·have hkz:=F.mul hk hz
  rw [if_neg hkz,if_neg hz]
  have h1:=F.mul_inv hz
  have h2:=F.mul_inv hkz
  have h3:=F.mul_inv hk
  have:kinv (k*Z)=kinv k*kinv Z:=F.inv_of (by grind)
  rw [this]
  congr 2<;>grind

theorem nrm_eq {X Y Z X' Y' Z':Fin p} (g:Good X Y Z) (g':Good X' Y' Z') (hx:X*Z'=X'*Z) (hy:Y*Z'=Y'*Z):nrm X Y Z=nrm X' Y' Z':=by
 unfold nrm
 by_cases hz:Z=0
 ·subst hz
  have hY:=(g.inf rfl).2
  have:Z'=0:=F.nz (a:=Y) (by rw [hy]; grind) hY
  rw [if_pos rfl,if_pos this]
 ·by_cases hz':Z'=0
  ·subst hz'
   have hY:=(g'.inf rfl).2
   exact absurd (F.nz (a:=Y') (by rw [← hy]; grind) hY) hz
  ·rw [if_neg hz,if_neg hz']
   have h1:=F.mul_inv hz
   have h2:=F.mul_inv hz'
   congr 2<;>grind

theorem tri_nrm {X Y Z:Fin p} (g:Good X Y Z):∃ k,k≠0∧tri (nrm X Y Z)=(k*X,k*Y,k*Z):=by
 unfold nrm
 by_cases hz:Z=0
 ·subst hz
  obtain ⟨hX,hY⟩:=g.inf rfl
  have h1:=F.mul_inv hY
  refine ⟨kinv Y,fun h=>F.one (by rw [← h1,h]; grind),?_⟩
  rw [if_pos rfl]
  have a0:kinv Y*0=0:=by grind
  have a1:kinv Y*Y=1:=by grind
  simp only [tri,hX,a0,a1]
 ·have h1:=F.mul_inv hz
  refine ⟨kinv Z,fun h=>F.one (by rw [← h1,h]; grind),?_⟩
  rw [if_neg hz]
  simp only [tri]
  congr 1
  ·grind
  ·congr 1<;>grind

omit F in
theorem c_scale (k X1 Y1 Z1 l X2 Y2 Z2:Fin p):cX (k*X1) (k*Y1) (k*Z1) (l*X2) (l*Y2) (l*Z2)=(k*k*(l*l))*cX X1 Y1 Z1 X2 Y2 Z2 ∧
  cY (k*X1) (k*Y1) (k*Z1) (l*X2) (l*Y2) (l*Z2)=(k*k*(l*l))*cY X1 Y1 Z1 X2 Y2 Z2∧cZ (k*X1) (k*Y1) (k*Z1) (l*X2) (l*Y2) (l*Z2)=(k*k*(l*l))*cZ X1 Y1 Z1 X2 Y2 Z2:=by
 unfold cX cY cZ
 refine ⟨?_,?_,?_⟩<;>grind

theorem add_none (P:Pt p) (h:On P):add P none=P:=by
 cases P with
 | none=>
  have:cZ (p:=p) 0 1 0 0 1 0=0:=by unfold cZ; grind
  show nrm (cX (p:=p) 0 1 0 0 1 0) (cY (p:=p) 0 1 0 0 1 0) (cZ (p:=p) 0 1 0 0 1 0)=none
  unfold nrm
  rw [if_pos this]
 | some q=>
  obtain ⟨x,y⟩:=q
  have hy:=F.y0 h
  have e1:cX x y 1 0 1 0=y*x:=by unfold cX; grind
  have e2:cY x y 1 0 1 0=y*y:=by unfold cY; grind
  have e3:cZ x y 1 0 1 0=y*1:=by unfold cZ; grind
  show nrm (cX x y 1 0 1 0) (cY x y 1 0 1 0) (cZ x y 1 0 1 0)=_
  rw [e1,e2,e3,nrm_scale F hy]
  unfold nrm
  rw [if_neg F.one]
  have:kinv (1:Fin p)=1:=F.inv_of (by grind)
  rw [this]
  congr 2<;>grind

omit F in
theorem add_comm (P Q:Pt p):add P Q=add Q P:=by
 unfold add
 have h:=c_comm (tri P).1 (tri P).2.1 (tri P).2.2 (tri Q).1 (tri Q).2.1 (tri Q).2.2
 rw [h.1,h.2.1,h.2.2]

theorem none_add (P:Pt p) (h:On P):add none P=P:=by rw [add_comm]; exact add_none F P h

theorem add_on (P Q:Pt p) (hP:On P) (hQ:On Q):On (add P Q):=by
 cases P with
 | none=>rw [none_add F Q hQ]; exact hQ
 | some a=>
  cases Q with
  | none=>rw [add_none F _ hP]; exact hP
  | some b=>
   obtain ⟨x1,y1⟩:=a
   obtain ⟨x2,y2⟩:=b
   have hon:=c_on hP hQ
   show On (nrm (cX x1 y1 1 x2 y2 1) (cY x1 y1 1 x2 y2 1) (cZ x1 y1 1 x2 y2 1))
   unfold nrm
   split
   ·trivial
   ·rename_i hz
    have h1:=F.mul_inv hz
    simp only [On]
    generalize cX x1 y1 1 x2 y2 1=X at *
    generalize cY x1 y1 1 x2 y2 1=Y at *
    generalize cZ x1 y1 1 x2 y2 1=Z at *
    generalize kinv Z=i at *
    grind

theorem add_assoc (P Q R:Pt p) (hP:On P) (hQ:On Q) (hR:On R):add (add P Q) R=add P (add Q R):=by
 cases P with
 | none=>rw [none_add F Q hQ,none_add F _ (add_on F Q R hQ hR)]
 | some a=>
  cases Q with
  | none=>rw [add_none F _ hP,none_add F R hR]
  | some b=>
   cases R with
   | none=>rw [add_none F _ (add_on F _ _ hP hQ),add_none F _ hQ]
   | some c=>
    obtain ⟨x1,y1⟩:=a
    obtain ⟨x2,y2⟩:=b
    obtain ⟨x3,y3⟩:=c
    have ha:=c_assoc hP hQ hR
    have g1:=c_good F hP hQ
    have g2:=c_good F hQ hR
    have on1:=add_on F _ _ hP hQ
    have on2:=add_on F _ _ hQ hR
    obtain ⟨k,hk,ek⟩:=tri_nrm F g1
    obtain ⟨l,hl,el⟩:=tri_nrm F g2
    have gl:∀ S:Pt p,On S→Good (cX (tri S).1 (tri S).2.1 (tri S).2.2 x3 y3 1) (cY (tri S).1 (tri S).2.1 (tri S).2.2 x3 y3 1) (cZ (tri S).1 (tri S).2.1 (tri S).2.2 x3 y3 1):=fun S hS=>by
     cases S with
     | none=>
      have hy:=F.y0 hR
      refine ⟨fun hz=>?_⟩
      exfalso
      simp only [tri] at hz
      exact hy (by unfold cZ at hz; grind)
     | some s=>exact c_good F hS hR
    have gr:∀ S:Pt p,On S→Good (cX x1 y1 1 (tri S).1 (tri S).2.1 (tri S).2.2) (cY x1 y1 1 (tri S).1 (tri S).2.1 (tri S).2.2) (cZ x1 y1 1 (tri S).1 (tri S).2.1 (tri S).2.2):=fun S hS=>by
     cases S with
     | none=>
      have hy:=F.y0 hP
      refine ⟨fun hz=>?_⟩
      exfalso
      simp only [tri] at hz
      exact hy (by unfold cZ at hz; grind)
     | some s=>exact c_good F hP hS
    have G1:=gl _ on1
    have G2:=gr _ on2
    have e1:add (add (some (x1,y1)) (some (x2,y2))) (some (x3,y3))=nrm (cX (tri (add (some (x1,y1)) (some (x2,y2)))).1 (tri (add (some (x1,y1)) (some (x2,y2)))).2.1 (tri (add (some (x1,y1)) (some (x2,y2)))).2.2 x3 y3 1)
     (cY (tri (add (some (x1,y1)) (some (x2,y2)))).1 (tri (add (some (x1,y1)) (some (x2,y2)))).2.1 (tri (add (some (x1,y1)) (some (x2,y2)))).2.2 x3 y3 1)
     (cZ (tri (add (some (x1,y1)) (some (x2,y2)))).1 (tri (add (some (x1,y1)) (some (x2,y2)))).2.1 (tri (add (some (x1,y1)) (some (x2,y2)))).2.2 x3 y3 1):=rfl
    have e2:add (some (x1,y1)) (add (some (x2,y2)) (some (x3,y3)))=nrm (cX x1 y1 1 (tri (add (some (x2,y2)) (some (x3,y3)))).1 (tri (add (some (x2,y2)) (some (x3,y3)))).2.1 (tri (add (some (x2,y2)) (some (x3,y3)))).2.2)
     (cY x1 y1 1 (tri (add (some (x2,y2)) (some (x3,y3)))).1 (tri (add (some (x2,y2)) (some (x3,y3)))).2.1 (tri (add (some (x2,y2)) (some (x3,y3)))).2.2)
     (cZ x1 y1 1 (tri (add (some (x2,y2)) (some (x3,y3)))).1 (tri (add (some (x2,y2)) (some (x3,y3)))).2.1 (tri (add (some (x2,y2)) (some (x3,y3)))).2.2):=rfl
    rw [e1,e2]
    have t1:tri (add (some (x1,y1)) (some (x2,y2)))=(k*cX x1 y1 1 x2 y2 1,k*cY x1 y1 1 x2 y2 1,k*cZ x1 y1 1 x2 y2 1):=ek
    have t2:tri (add (some (x2,y2)) (some (x3,y3)))=(l*cX x2 y2 1 x3 y3 1,l*cY x2 y2 1 x3 y3 1,l*cZ x2 y2 1 x3 y3 1):=el
    rw [t1] at G1 ⊢
    rw [t2] at G2 ⊢
    simp only at G1 G2 ⊢
    refine nrm_eq F G1 G2 ?_ ?_
    all_goals
     have s1:=c_scale k (cX x1 y1 1 x2 y2 1) (cY x1 y1 1 x2 y2 1) (cZ x1 y1 1 x2 y2 1) 1 x3 y3 1
     have s2:=c_scale 1 x1 y1 1 l (cX x2 y2 1 x3 y3 1) (cY x2 y2 1 x3 y3 1) (cZ x2 y2 1 x3 y3 1)
     have o1:∀ a:Fin p,1*a=a:=fun a=>by grind
     simp only [o1] at s1 s2
     have o2:k*k*(1:Fin p)=k*k:=by grind
    ·rw [s1.1,s1.2.2,s2.1,s2.2.2]
     generalize cX (cX x1 y1 1 x2 y2 1) (cY x1 y1 1 x2 y2 1) (cZ x1 y1 1 x2 y2 1) x3 y3 1=A at *
     generalize cZ (cX x1 y1 1 x2 y2 1) (cY x1 y1 1 x2 y2 1) (cZ x1 y1 1 x2 y2 1) x3 y3 1=B at *
     generalize cX x1 y1 1 (cX x2 y2 1 x3 y3 1) (cY x2 y2 1 x3 y3 1) (cZ x2 y2 1 x3 y3 1)=C at *
     generalize cZ x1 y1 1 (cX x2 y2 1 x3 y3 1) (cY x2 y2 1 x3 y3 1) (cZ x2 y2 1 x3 y3 1)=D at *
     have:=ha.1
     grind
    ·rw [s1.2.1,s1.2.2,s2.2.1,s2.2.2]
     generalize cY (cX x1 y1 1 x2 y2 1) (cY x1 y1 1 x2 y2 1) (cZ x1 y1 1 x2 y2 1) x3 y3 1=A at *
     generalize cZ (cX x1 y1 1 x2 y2 1) (cY x1 y1 1 x2 y2 1) (cZ x1 y1 1 x2 y2 1) x3 y3 1=B at *
     generalize cY x1 y1 1 (cX x2 y2 1 x3 y3 1) (cY x2 y2 1 x3 y3 1) (cZ x2 y2 1 x3 y3 1)=C at *
     generalize cZ x1 y1 1 (cX x2 y2 1 x3 y3 1) (cY x2 y2 1 x3 y3 1) (cZ x2 y2 1 x3 y3 1)=D at *
     have:=ha.2
     grind

theorem add_neg (P:Pt p) (h:On P):add P (neg P)=none:=by
 cases P with
 | none=>exact add_none F none trivial
 | some a=>
  obtain ⟨x,y⟩:=a
  have:cZ x y 1 x (-y) 1=0:=by unfold cZ; grind
  show nrm (cX x y 1 x (-y) 1) (cY x y 1 x (-y) 1) (cZ x y 1 x (-y) 1)=none
  unfold nrm
  rw [if_pos this]

omit F in
theorem neg_on (P:Pt p) (h:On P):On (neg P):=by
 cases P with
 | none=>trivial
 | some a=>obtain ⟨x,y⟩:=a; simp only [neg,On] at *; grind

theorem add_chord {x1 y1 x2 y2:Fin p} (h1:y1*y1=x1*x1*x1+7) (h2:y2*y2=x2*x2*x2+7) (hx:x1≠x2) {s:Fin p} (hs:s=(y2-y1)*kinv (x2-x1)) :
  add (some (x1,y1)) (some (x2,y2))=some (s*s-x1-x2,s*(x1-(s*s-x1-x2))-y1):=by
 have hd:x2-x1≠0:=fun h=>hx (by grind)
 have he:=F.mul_inv hd
 have hz:=cZ_ne F h1 h2 hx
 obtain ⟨e1,e2⟩:=chord_eq h1 h2 he hs
 show nrm (cX x1 y1 1 x2 y2 1) (cY x1 y1 1 x2 y2 1) (cZ x1 y1 1 x2 y2 1)=_
 unfold nrm
 rw [if_neg hz,e1,e2]
 have h3:=F.mul_inv hz
 congr 2<;>grind

theorem add_tangent {x y:Fin p} (h:y*y=x*x*x+7) {s:Fin p} (hs:s=(x*x+(x*x+x*x))*kinv (y+y)) :
  add (some (x,y)) (some (x,y))=some (s*s-x-x,s*(x-(s*s-x-x))-y):=by
 have hy:=F.y0 h
 have h2y:y+y≠0:=by
  have:=F.mul F.two hy
  intro h; exact this (by grind)
 have he:=F.mul_inv h2y
 obtain ⟨e1,e2,e3⟩:=tangent_eq h he hs
 have hz:cZ x y 1 x y 1≠0:=by
  rw [e3]
  have h2:=F.two
  have:(8:Fin p)=2*2*2:=by grind
  rw [this]
  exact F.mul (F.mul (F.mul h2 h2) h2) (F.mul (F.mul hy hy) hy)
 show nrm (cX x y 1 x y 1) (cY x y 1 x y 1) (cZ x y 1 x y 1)=_
 unfold nrm
 rw [if_neg hz,e1,e2]
 have h3:=F.mul_inv hz
 congr 2<;>grind

end
end Go.Ec

namespace Go.Ec

def PPn:Nat:=115792089237316195423570985008687907853269984665640564039457584007908834671663
instance:NeZero PPn:=⟨by decide⟩
theorem PPn_pr:Nt.Pr PPn:=Nt.prime_p

theorem nat_inv {P a:Nat} (h3:3≤P) (hf:a^(P-1)%P=1):a*(a^(P-2)%P)%P=1:=by
 have:P-1=(P-2)+1:=by omega
 rw [this,Nat.pow_succ,Nat.mul_comm] at hf
 rw [Nat.mul_mod_mod]
 exact hf

theorem nat_c {P c:Nat} (h7:7<P) (hv:(c+7)%P=0):(P-7)%P=c%P:=by
 obtain ⟨k,hk⟩:=Nat.dvd_of_mod_eq_zero hv
 have hk0:k≠0:=fun h=>by subst h; omega
 obtain ⟨j,rfl⟩:∃ j,k=j+1:=⟨k-1,by omega⟩
 have:c=(P-7)+P*j:=by rw [Nat.mul_add] at hk; omega
 rw [this,Nat.add_mul_mod_self_left]

theorem fin_inv (a:Fin PPn) (ha:a≠0):∃ b,a*b=1:=by
 have hv:¬ PPn ∣ a.val:=fun h=>ha (Fin.ext (Nat.eq_zero_of_dvd_of_lt h a.isLt))
 have hf:=Nt.fermat PPn_pr hv
 refine ⟨Fin.ofNat PPn (a.val^(PPn-2)),Fin.ext ?_⟩
 rw [Fin.val_mul]
 have e1:(1:Fin PPn).val=1:=rfl
 have e2:(Fin.ofNat PPn (a.val^(PPn-2))).val=a.val^(PPn-2)%PPn:=rfl
 rw [e1,e2]
 exact nat_inv (by decide) hf

theorem fld:Fld PPn:=by
 refine ⟨fin_inv,by decide,by decide,by decide,fun x h=>?_⟩
 have hv:(x.val*x.val*x.val+7)%PPn=0:=by
  have:=congrArg Fin.val h
  rw [Fin.val_add,Fin.val_mul,Fin.val_mul] at this
  have e7:(7:Fin PPn).val=7:=rfl
  have e0:(0:Fin PPn).val=0:=rfl
  rw [e7,e0] at this
  simpa [Nat.add_mod,Nat.mul_mod] using this
 have hx:¬ PPn ∣ x.val:=fun hd=>by
  have h0:x.val=0:=Nat.eq_zero_of_dvd_of_lt hd x.isLt
  rw [h0] at hv
  revert hv
  decide
 have hf:=Nt.fermat PPn_pr hx
 have hp:Nt.pmod PPn (PPn-7) 256 ((PPn-1)/3)≠1:=by
  intro h
  have:(Nt.pmod PPn (PPn-7) 256 ((PPn-1)/3)==1)=false:=by kernel_rfl
  rw [h] at this
  cases this
 rw [Nt.pmod_eq _ _ _ _ (by decide)] at hp
 apply hp
 have hc:(PPn-7)%PPn=x.val^3%PPn:=by
  have h3:x.val^3=x.val*x.val*x.val:=by rw [Nat.pow_succ,Nat.pow_succ,Nat.pow_one]
  rw [h3]
  exact nat_c (by decide) hv
 rw [Nat.pow_mod,hc,← Nat.pow_mod,← Nat.pow_mul]
 have e3:3*((PPn-1)/3)=PPn-1:=by decide
 rw [e3,hf]

section
variable {p:Nat} [NeZero p]
noncomputable def smul (k:Nat) (P:Pt p):Pt p:=match k with
 | 0=>none
 | k+1=>add (smul k P) P

variable (F:Fld p)
include F

theorem smul_on (P:Pt p) (h:On P):∀ k,On (smul k P)
 | 0=>trivial
 | k+1=>add_on F _ _ (smul_on P h k) h

theorem smul_add (P:Pt p) (h:On P) (a:Nat):∀ b,smul (a+b) P=add (smul a P) (smul b P)
 | 0=>by rw [Nat.add_zero]; exact (add_none F _ (smul_on F P h a)).symm
 | b+1=>by
  show add (smul (a+b) P) P=add (smul a P) (add (smul b P) P)
  rw [smul_add P h a b,add_assoc F _ _ _ (smul_on F P h a) (smul_on F P h b) h]

theorem smul_mul (P:Pt p) (h:On P) (a:Nat):∀ b,smul (a*b) P=smul b (smul a P)
 | 0=>rfl
 | b+1=>by
  show smul (a*b+a) P=add (smul b (smul a P)) (smul a P)
  rw [smul_add F P h,smul_mul P h a b]

omit F in
theorem smul_none:∀ k,(F:Fld p)→smul k (none:Pt p)=none
 | 0,_=>rfl
 | k+1,F=>by
  show add (smul k none) none=none
  rw [smul_none k F]; exact add_none F none trivial

theorem smul_sum (P Q:Pt p) (hP:On P) (hQ:On Q):∀ k,smul k (add P Q)=add (smul k P) (smul k Q)
 | 0=>(add_none F none trivial).symm
 | k+1=>by
  have h1:=smul_on F P hP k
  have h2:=smul_on F Q hQ k
  show add (smul k (add P Q)) (add P Q)=add (add (smul k P) P) (add (smul k Q) Q)
  rw [smul_sum P Q hP hQ k,add_assoc F _ _ _ h1 h2 (add_on F _ _ hP hQ),← add_assoc F _ _ _ h2 hP hQ,add_comm (smul k Q) P,add_assoc F _ _ _ hP h2 hQ,← add_assoc F _ _ _ h1 hP (add_on F _ _ h2 hQ)]

end
end Go.Ec

namespace Go.Ec
section
variable {p:Nat} [NeZero p] (F:Fld p)
include F

theorem cancel (A B C:Pt p) (hA:On A) (hB:On B) (hC:On C) (h:add A B=add A C):B=C:=by
 have hn:=neg_on A hA
 have e:∀ D:Pt p,On D→add (neg A) (add A D)=D:=fun D hD=>by
  rw [← add_assoc F _ _ _ hn hA hD,add_comm (neg A) A,add_neg F A hA,none_add F D hD]
 rw [← e B hB,h,e C hC]

theorem no2 (Q:Pt p) (h:On Q) (h2:add Q Q=none):Q=none:=by
 cases Q with
 | none=>rfl
 | some a=>
  obtain ⟨x,y⟩:=a
  rw [add_tangent F h rfl] at h2
  cases h2

theorem smul_gcd (P:Pt p) (h:On P):∀ a b:Nat,smul a P=none→smul b P=none→smul (Nat.gcd a b) P=none:=by
 intro a b
 induction a,b using Nat.gcd.induction with
 | H0 n=>intro _ h2; simpa using h2
 | H1 m n hm ih=>
  intro h1 h2
  rw [Nat.gcd_rec]
  refine ih ?_ h1
  have e:n=m*(n/m)+n%m:=(Nat.div_add_mod n m).symm
  rw [e,smul_add F P h,smul_mul F P h,h1,smul_none _ F,none_add F _ (smul_on F P h _)] at h2
  exact h2

theorem smul_inj (G:Pt p) (hG:On G) {n:Nat} (hn:Nt.Pr n) (h0:smul n G=none) (h1:G≠none):∀ i j,i≤j→j<n→smul i G=smul j G→i=j:=by
 intro i j hij hj he
 apply Classical.byContradiction
 intro hne
 have hd:smul (j-i) G=none:=by
  have e:j=i+(j-i):=by omega
  rw [e,smul_add F G hG] at he
  have:=cancel F (smul i G) none (smul (j-i) G) (smul_on F G hG _) trivial (smul_on F G hG _) (by rw [add_none F _ (smul_on F G hG _)]; exact he)
  exact this.symm
 have hg:=smul_gcd F G hG _ _ h0 hd
 have hc:Nat.gcd n (j-i)=1:=hn.coprime fun h=>by
  have:=Nat.le_of_dvd (by omega) h
  omega
 rw [hc] at hg
 apply h1
 have:smul 1 G=G:=none_add F G hG
 rw [← this]; exact hg

end

def code:Pt PPn→Nat
 | none=>2*PPn
 | some (x,y)=>2*x.val+y.val%2

theorem code_lt (P:Pt PPn):code P<2*PPn+1:=by
 cases P with
 | none=>simp [code]
 | some a=>
  obtain ⟨x,y⟩:=a
  have:=x.isLt
  simp only [code]; omega

theorem par {P a b:Nat} (hP:P%2=1) (ha:a<P) (hb:b<P) (h:(a+b)%P=0) (ha0:a≠0) (hp:a%2=b%2):False:=by
 obtain ⟨k,hk⟩:=Nat.dvd_of_mod_eq_zero h
 have hk1:k=1:=by
  rcases k with _ | _ | k
  ·omega
  ·rfl
  ·have:P*(k+1+1)=P*k+P+P:=by rw [Nat.mul_add,Nat.mul_add,Nat.mul_one]
   have:=Nat.zero_le (P*k)
   omega
 subst hk1
 omega

theorem code_inj (P Q:Pt PPn) (hP:On P) (hQ:On Q) (h:code P=code Q):P=Q:=by
 cases P with
 | none=>
  cases Q with
  | none=>rfl
  | some b=>
   obtain ⟨x,y⟩:=b
   have:=x.isLt
   simp only [code] at h; omega
 | some a=>
  obtain ⟨x,y⟩:=a
  cases Q with
  | none=>
   have:=x.isLt
   simp only [code] at h; omega
  | some b=>
   obtain ⟨x',y'⟩:=b
   simp only [code] at h
   have hx:x=x':=Fin.ext (by omega)
   subst hx
   have hy:y.val%2=y'.val%2:=by omega
   simp only [On] at hP hQ
   have hprod:(y-y')*(y+y')=0:=by grind
   by_cases hd:y-y'=0
   ·have:y=y':=by grind
    rw [this]
   ·exfalso
    have hs:=fld.nz hprod hd
    have hv:(y.val+y'.val)%PPn=0:=by
     have:=congrArg Fin.val hs
     rw [Fin.val_add] at this
     exact this
    have hy0:y.val≠0:=fun h0=>fld.y0 hP (Fin.ext h0)
    exact par (by decide) y.isLt y'.isLt hv hy0 hy

theorem three_n {n p2 i:Nat} (h:i<p2+1) (hp:p2+1≤3*n):i<n∨(n≤i∧i-n<n)∨(n+n≤i∧i-(n+n)<n):=by omega

theorem order_all {n:Nat} (hNpr:Nt.Pr n) (hle:2*PPn+1+1≤3*n) (G:Pt PPn) (hG:On G) (h0:smul n G=none) (h1:G≠none) (P:Pt PPn) (hP:On P):smul n P=none:=by
 apply Classical.byContradiction
 intro hne
 have F:=fld
 have hnP:=smul_on F P hP n
 have onG:∀ i,On (smul i G):=smul_on F G hG
 have hPP:=add_on F P P hP hP
 have nG:∀ i,smul n (smul i G)=none:=fun i=>by rw [← smul_mul F G hG,Nat.mul_comm,smul_mul F G hG,h0,smul_none _ F]
 let f:Nat→Pt PPn:=fun i=>if i<n then smul i G else if i-n<n then add P (smul (i-n) G) else add (add P P) (smul (i-(n+n)) G)
 have onf:∀ i,On (f i):=fun i=>by
  simp only [f]
  split
  ·exact onG _
  ·split
   ·exact add_on F _ _ hP (onG _)
   ·exact add_on F _ _ hPP (onG _)
 have hcl:∀ i,code (f i)<2*PPn+1:=fun i=>code_lt (f i)
 obtain ⟨i,j,hij,hj,he⟩:∃ i j,i<j∧j<2*PPn+1+1∧code (f i)=code (f j):=by
  generalize 2*PPn+1=q at hcl
  exact Nt.pigeon q (fun i=>code (f i)) (fun i _=>hcl i)
 have hf:=code_inj _ _ (onf i) (onf j) he
 have hi3:=three_n (i:=i) (by omega) hle
 have hj3:=three_n (i:=j) hj hle
 have hc:=congrArg (smul n) hf
 have v1:∀ k,smul n (add P (smul k G))=smul n P:=fun k=>by
  rw [smul_sum F _ _ hP (onG k),nG,add_none F _ hnP]
 have v2:∀ k,smul n (add (add P P) (smul k G))=add (smul n P) (smul n P):=fun k=>by
  rw [smul_sum F _ _ hPP (onG k),nG,add_none F _ (smul_on F _ hPP _),smul_sum F _ _ hP hP]
 have hne2:add (smul n P) (smul n P)≠none:=fun h=>hne (no2 F _ hnP h)
 have hne3:add (smul n P) (smul n P)≠smul n P:=fun h=>hne (cancel F (smul n P) _ none hnP hnP trivial (by rw [h,add_none F _ hnP]))
 have inj:∀ a b,a<b→b<n→smul a G≠smul b G:=fun a b hab hb h=>by
  have:=smul_inj F G hG hNpr h0 h1 a b (by omega) hb h
  omega
 rcases hi3 with h | ⟨ha,hb⟩ | ⟨ha,hb⟩<;>rcases hj3 with k | ⟨ka,kb⟩ | ⟨ka,kb⟩
 ·simp only [f,if_pos h,if_pos k] at hf
  exact inj i j hij k hf
 ·have k':¬ j<n:=by omega
  simp only [f,if_pos h,if_neg k',if_pos kb,nG,v1] at hc
  exact hne hc.symm
 ·have k':¬ j<n:=by omega
  have k'':¬ j-n<n:=by omega
  simp only [f,if_pos h,if_neg k',if_neg k'',nG,v2] at hc
  exact hne2 hc.symm
 ·omega
 ·have h':¬ i<n:=by omega
  have k':¬ j<n:=by omega
  simp only [f,if_neg h',if_pos hb,if_neg k',if_pos kb] at hf
  exact inj (i-n) (j-n) (by omega) kb (cancel F P _ _ hP (onG _) (onG _) hf)
 ·have h':¬ i<n:=by omega
  have k':¬ j<n:=by omega
  have k'':¬ j-n<n:=by omega
  simp only [f,if_neg h',if_pos hb,if_neg k',if_neg k'',v1,v2] at hc
  exact hne3 hc.symm
 ·omega
 ·omega
 ·have h':¬ i<n:=by omega
  have h'':¬ i-n<n:=by omega
  have k':¬ j<n:=by omega
  have k'':¬ j-n<n:=by omega
  simp only [f,if_neg h',if_neg h'',if_neg k',if_neg k''] at hf
  exact inj (i-(n+n)) (j-(n+n)) (by omega) kb (cancel F (add P P) _ _ hPP (onG _) (onG _) hf)

end Go.Ec

namespace Go.Ec

def kn (n:Nat):Fin PPn:=toK (n:Int)

theorem kn_add (a b:Nat):kn (a+b)=kn a+kn b:=by unfold kn; rw [Int.natCast_add,toK_add]
theorem kn_mul (a b:Nat):kn (a*b)=kn a*kn b:=by unfold kn; rw [Int.natCast_mul,toK_mul]
theorem kn_mod (a:Nat):kn (a%PPn)=kn a:=by
 unfold kn
 rw [toK_eq,Int.natCast_emod,Int.emod_emod_of_dvd _ (Int.dvd_refl _)]
theorem kn_neg (a:Nat):kn (PPn-a%PPn) = -kn a:=by
 have hlt:a%PPn<PPn:=Nat.mod_lt _ (by decide)
 have h:kn (PPn-a%PPn)+kn a=0:=by
  rw [← kn_mod a,← kn_add]
  have:PPn-a%PPn+a%PPn=PPn:=Nat.sub_add_cancel (Nat.le_of_lt hlt)
  rw [this,← kn_mod,Nat.mod_self]
  exact toK_zero
 grind

def tadd (T U:Nat×Nat×Nat):Nat×Nat×Nat:=
 (((T.1*U.2.1+U.1*T.2.1)%PPn*((T.2.1*U.2.1+(PPn-(21*(T.2.2*U.2.2))%PPn))%PPn)+(PPn-(21*(T.2.1*U.2.2+U.2.1*T.2.2)%PPn*((T.1*U.2.2+U.1*T.2.2)%PPn))%PPn))%PPn,
  ((T.2.1*U.2.1+21*(T.2.2*U.2.2))%PPn*((T.2.1*U.2.1+(PPn-(21*(T.2.2*U.2.2))%PPn))%PPn)+63*(T.1*U.1)%PPn*((T.1*U.2.2+U.1*T.2.2)%PPn))%PPn,
  ((T.2.1*U.2.2+U.2.1*T.2.2)%PPn*((T.2.1*U.2.1+21*(T.2.2*U.2.2))%PPn)+3*(T.1*U.1)%PPn*((T.1*U.2.1+U.1*T.2.1)%PPn))%PPn)

theorem n21:kn 21=21:=k21
theorem n63:kn 63=63:=k63
theorem n3:kn 3=3:=k3

theorem tadd_ok (T U:Nat×Nat×Nat):kn (tadd T U).1=cX (kn T.1) (kn T.2.1) (kn T.2.2) (kn U.1) (kn U.2.1) (kn U.2.2)∧kn (tadd T U).2.1=cY (kn T.1) (kn T.2.1) (kn T.2.2) (kn U.1) (kn U.2.1) (kn U.2.2) ∧
  kn (tadd T U).2.2=cZ (kn T.1) (kn T.2.1) (kn T.2.2) (kn U.1) (kn U.2.1) (kn U.2.2):=by
 unfold tadd cX cY cZ
 simp only [kn_mod,kn_add,kn_mul,kn_neg,n21,n63,n3]
 refine ⟨by grind,by grind,by grind⟩

theorem c00 {p:Nat} [NeZero p]:cX (p:=p) 0 1 0 0 1 0=0∧cY (p:=p) 0 1 0 0 1 0=1:=by
 unfold cX cY
 constructor<;>grind

theorem good_all (P Q:Pt PPn) (hP:On P) (hQ:On Q):Good (cX (tri P).1 (tri P).2.1 (tri P).2.2 (tri Q).1 (tri Q).2.1 (tri Q).2.2) (cY (tri P).1 (tri P).2.1 (tri P).2.2 (tri Q).1 (tri Q).2.1 (tri Q).2.2) (cZ (tri P).1 (tri P).2.1 (tri P).2.2 (tri Q).1 (tri Q).2.1 (tri Q).2.2):=by
 have F:=fld
 refine ⟨fun hz=>?_⟩
 cases P with
 | none=>
  cases Q with
  | none=>
   simp only [tri]
   exact ⟨c00.1,fun h=>F.one (by rw [← c00.2]; exact h)⟩
  | some b=>
   exfalso
   have hy:=F.y0 hQ
   simp only [tri] at hz
   exact hy (by unfold cZ at hz; grind)
 | some a=>
  cases Q with
  | none=>
   exfalso
   have hy:=F.y0 hP
   simp only [tri] at hz
   exact hy (by unfold cZ at hz; grind)
  | some b=>exact (c_good F hP hQ).inf hz

def Rep (T:Nat×Nat×Nat) (P:Pt PPn):Prop:=∃ k,k≠0∧tri P=(k*kn T.1,k*kn T.2.1,k*kn T.2.2)

theorem rep_add {T U:Nat×Nat×Nat} {P Q:Pt PPn} (hP:On P) (hQ:On Q) (h1:Rep T P) (h2:Rep U Q):Rep (tadd T U) (add P Q):=by
 have F:=fld
 obtain ⟨k,hk,e1⟩:=h1
 obtain ⟨l,hl,e2⟩:=h2
 obtain ⟨m,hm,e3⟩:=tri_nrm F (good_all P Q hP hQ)
 have e4:tri (add P Q)=_:=e3
 obtain ⟨t1,t2,t3⟩:=tadd_ok T U
 obtain ⟨s1,s2,s3⟩:=c_scale k (kn T.1) (kn T.2.1) (kn T.2.2) l (kn U.1) (kn U.2.1) (kn U.2.2)
 refine ⟨m*(k*k*(l*l)),F.mul hm (F.mul (F.mul hk hk) (F.mul hl hl)),?_⟩
 rw [e4,e1,e2,t1,t2,t3]
 simp only [s1,s2,s3]
 congr 1
 ·grind
 ·congr 1<;>grind

def gT:Nat×Nat×Nat:=(55066263022277343669578718895168534326250603453777594175500187360389116729240,32670510020758816978083085130507043184471273380659243275938904335757337482424,1)

def lad:Nat→Nat→Nat×Nat×Nat
 | 0,_=>(0,1,0)
 | k+1,e=>match e%2 with
  | 0=>tadd (lad k (e/2)) (lad k (e/2))
  | _=>tadd (tadd (lad k (e/2)) (lad k (e/2))) gT

def gP:Pt PPn:=some (kn gT.1,kn gT.2.1)

theorem gP_on:On gP:=by
 show kn gT.2.1*kn gT.2.1=kn gT.1*kn gT.1*kn gT.1+7
 have n7:kn 7=7:=k7
 rw [← n7,← kn_mul,← kn_mul,← kn_mul,← kn_add]
 unfold kn
 rw [toK_eq]
 decide +kernel

theorem rep_g:Rep gT gP:=⟨1,fld.one,by
 have n1:kn 1=1:=k1
 show (kn gT.1,kn gT.2.1,(1:Fin PPn))=(1*kn gT.1,1*kn gT.2.1,1*kn 1)
 have o1:∀ a:Fin PPn,1*a=a:=fun a=>by grind
 rw [n1,o1,o1,o1]⟩

theorem rep_lad:∀ k e,e<2^k→Rep (lad k e) (smul e gP)
 | 0,e,h=>by
  have:e=0:=by simpa using h
  subst this
  refine ⟨1,fld.one,?_⟩
  have n1:kn 1=1:=k1
  have n0:kn 0=0:=toK_zero
  show ((0:Fin PPn),(1:Fin PPn),(0:Fin PPn))=(1*kn 0,1*kn 1,1*kn 0)
  rw [n1,n0]
  rfl
 | k+1,e,h=>by
  have F:=fld
  have ih:=rep_lad k (e/2) (by rw [Nat.pow_succ] at h; omega)
  have hon:=smul_on F gP gP_on (e/2)
  have hd:=rep_add hon hon ih ih
  unfold lad
  split
  ·rename_i h0
   have:e=e/2+e/2:=by omega
   rw [this,smul_add F gP gP_on,← this]
   exact hd
  ·rename_i h0
   have h0:¬ e%2=0:=h0
   have:e=e/2+e/2+1:=by omega
   have e1:smul e gP=add (add (smul (e/2) gP) (smul (e/2) gP)) gP:=by
    rw [← smul_add F gP gP_on]
    exact congrArg (fun k=>smul k gP) this
   rw [e1]
   exact rep_add (add_on F _ _ hon hon) gP_on hd rep_g

theorem lad_n:Nat.beq (lad 256 115792089237316195423570985008687907852837564279074904382605163141518161494337).2.2 0=true:=by kernel_rfl

theorem n_g {n:Nat} (hn:n=115792089237316195423570985008687907852837564279074904382605163141518161494337):smul n gP=none:=by
 have h0:=Nat.eq_of_beq_eq_true lad_n
 have hr:n<2^256→Rep (lad 256 n) (smul n gP):=rep_lad 256 n
 rw [← hn] at h0
 obtain ⟨k,hk,e⟩:=hr (by rw [hn]; decide)
 rw [h0] at e
 cases hs:smul n gP with
 | none=>rfl
 | some a=>
  rw [hs] at e
  have h2:=congrArg (fun t=>t.2.2) e
  simp only [tri] at h2
  have n0:kn 0=0:=toK_zero
  rw [n0] at h2
  exact absurd (by rw [h2]; grind) fld.one

theorem n_all {n:Nat} (hn:n=115792089237316195423570985008687907852837564279074904382605163141518161494337) (P:Pt PPn) (hP:On P):smul n P=none:=
 order_all (by rw [hn]; exact Nt.prime_n) (by rw [hn]; decide) gP gP_on (n_g hn) (by unfold gP; exact fun h=>by cases h) P hP

end Go.Ec
