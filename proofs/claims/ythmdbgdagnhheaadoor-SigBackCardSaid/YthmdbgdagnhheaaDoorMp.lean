import Derived.Test.YthmdbgdagnhheaaDoorMc1
namespace Go.Ec
section
variable {p : Nat} [NeZero p]

theorem p_pos : 0 < p := Nat.pos_of_ne_zero (NeZero.ne p)

def toK (z : Int) : Fin p := ⟨(z % (p : Int)).toNat, by
 have h : 0 < p := p_pos
 have := Int.emod_nonneg z (b := (p : Int)) (by omega)
 have := Int.emod_lt_of_pos z (b := (p : Int)) (by omega)
 omega⟩

theorem toK_val (z : Int) : ((toK (p := p) z).val : Int) = z % (p : Int) := by
 have h : 0 < p := p_pos
 have := Int.emod_nonneg z (b := (p : Int)) (by omega)
 simp only [toK]; omega

theorem toK_eq {x y : Int} : (toK x : Fin p) = toK y ↔ x % (p : Int) = y % (p : Int) := by
 rw [← toK_val x, ← toK_val y]
 exact ⟨fun h => by rw [h], fun h => Fin.ext (by omega)⟩

theorem toK_add (x y : Int) : (toK (x + y) : Fin p) = toK x + toK y := by
 apply Fin.ext
 have h1 := toK_val (p := p) x
 have h2 := toK_val (p := p) y
 have h3 := toK_val (p := p) (x + y)
 have : (((toK x + toK y : Fin p).val : Nat) : Int) = (x + y) % (p : Int) := by
  rw [Fin.val_add]
  push_cast
  rw [h1, h2, ← Int.add_emod]
 omega

theorem toK_mul (x y : Int) : (toK (x * y) : Fin p) = toK x * toK y := by
 apply Fin.ext
 have h1 := toK_val (p := p) x
 have h2 := toK_val (p := p) y
 have h3 := toK_val (p := p) (x * y)
 have : (((toK x * toK y : Fin p).val : Nat) : Int) = (x * y) % (p : Int) := by
  rw [Fin.val_mul]
  push_cast
  rw [h1, h2, ← Int.mul_emod]
 omega

theorem toK_zero : (toK 0 : Fin p) = 0 := by
 apply Fin.ext
 have h3 := toK_val (p := p) 0
 simp at h3 ⊢
 omega

theorem toK_neg (x : Int) : (toK (-x) : Fin p) = -toK x := by
 have h : (toK (-x) : Fin p) + toK x = 0 := by rw [← toK_add, Int.add_left_neg, toK_zero]
 grind

structure Ops (R : Type) where
 int : Int → R
 add : R → R → R
 neg : R → R
 mul : R → R → R
 isZ : R → Bool

structure Hom {R : Type} (o : Ops R) (ev : R → Fin p) : Prop where
 int : ∀ z, ev (o.int z) = toK z
 add : ∀ a b, ev (o.add a b) = ev a + ev b
 neg : ∀ a, ev (o.neg a) = -ev a
 mul : ∀ a b, ev (o.mul a b) = ev a * ev b
 isZ : ∀ a, o.isZ a = true → ev a = 0

def intO : Ops Int := ⟨id, Int.add, Int.neg, Int.mul, fun z => match z with
 | .ofNat 0 => true
 | _ => false⟩

theorem intH : Hom (p := p) intO toK := ⟨fun _ => rfl, toK_add, toK_neg, toK_mul, fun a h => by
 simp only [intO] at h
 split at h
 ·exact toK_zero
 ·cases h⟩

section
variable {R : Type} (o : Ops R) (ev : R → Fin p)

def ladd : List R → List R → List R
 | [], q => q
 | a :: p, [] => a :: p
 | a :: p, b :: q => o.add a b :: ladd p q

def lscale (c : R) : List R → List R
 | [] => []
 | a :: l => o.mul c a :: lscale c l

def lneg : List R → List R
 | [] => []
 | a :: l => o.neg a :: lneg l

def lmul : List R → List R → List R
 | [], _ => []
 | a :: l, q => match o.isZ a with
  | true => match lmul l q with
   | [] => []
   | r => o.int 0 :: r
  | false => ladd o (lscale o a q) (match lmul l q with
   | [] => []
   | r => o.int 0 :: r)

def lisZ : List R → Bool
 | [] => true
 | a :: l => match o.isZ a with
  | true => lisZ l
  | false => false

def lev (x : Fin p) : List R → Fin p
 | [] => 0
 | a :: l => ev a + x * lev x l

def listO : Ops (List R) := ⟨fun z => [o.int z], ladd o, lneg o, lmul o, lisZ o⟩

variable {o ev}

theorem ladd_ev (h : Hom o ev) (x : Fin p) : ∀ a b, lev ev x (ladd o a b) = lev ev x a + lev ev x b
 | [], q => by simp only [ladd, lev]; grind
 | a :: l, [] => by simp only [ladd, lev]; grind
 | a :: l, b :: q => by
  simp only [ladd, lev, h.add, ladd_ev h x l q]
  grind

theorem lscale_ev (h : Hom o ev) (x : Fin p) (c : R) : ∀ a, lev ev x (lscale o c a) = ev c * lev ev x a
 | [] => by simp only [lscale, lev]; grind
 | a :: l => by
  simp only [lscale, lev, h.mul, lscale_ev h x c l]
  grind

theorem lneg_ev (h : Hom o ev) (x : Fin p) : ∀ a, lev ev x (lneg o a) = -lev ev x a
 | [] => by simp only [lneg, lev]; grind
 | a :: l => by
  simp only [lneg, lev, h.neg, lneg_ev h x l]
  grind

theorem lshift_ev (h : Hom o ev) (x : Fin p) (r : List R) : lev ev x (match r with
  | [] => []
  | r => o.int 0 :: r) = x * lev ev x r := by
 cases r with
 | nil => simp only [lev]; grind
 | cons a l => simp only [lev, h.int, toK_zero]; grind

theorem lmul_ev (h : Hom o ev) (x : Fin p) : ∀ a b, lev ev x (lmul o a b) = lev ev x a * lev ev x b
 | [], q => by simp only [lmul, lev]; grind
 | a :: l, q => by
  have ih := lmul_ev h x l q
  simp only [lmul]
  split
  ·rename_i hz
   have hz := h.isZ a hz
   rw [lshift_ev h x, ih]
   simp only [lev, hz]
   grind
  ·rw [ladd_ev h x, lscale_ev h x, lshift_ev h x, ih]
   simp only [lev]
   grind

theorem lisZ_ev (h : Hom o ev) (x : Fin p) : ∀ a, lisZ o a = true → lev ev x a = 0
 | [], _ => rfl
 | a :: l, hz => by
  simp only [lisZ] at hz
  split at hz
  ·rename_i ha
   simp only [lev, h.isZ a ha, lisZ_ev h x l hz]
   grind
  ·cases hz

theorem listH (h : Hom o ev) (x : Fin p) : Hom (listO o) (lev ev x) :=
 ⟨fun z => by simp only [listO, lev, h.int]; grind, ladd_ev h x, lneg_ev h x, lmul_ev h x, lisZ_ev h x⟩

variable (o)

def quadO (t : R) : Ops (R × R) := ⟨fun z => (o.int z, o.int 0), fun a b => (o.add a.1 b.1, o.add a.2 b.2), fun a => (o.neg a.1, o.neg a.2),
 fun a b => match o.isZ a.2, o.isZ b.2 with
  | true, true => (o.mul a.1 b.1, o.int 0)
  | true, false => (o.mul a.1 b.1, o.mul a.1 b.2)
  | false, true => (o.mul a.1 b.1, o.mul a.2 b.1)
  | false, false => (o.add (o.mul a.1 b.1) (o.mul (o.mul a.2 b.2) t), o.add (o.mul a.1 b.2) (o.mul a.2 b.1)),
 fun a => o.isZ a.1 && o.isZ a.2⟩

variable {o}

def qev (ev : R → Fin p) (y : Fin p) (a : R × R) : Fin p := ev a.1 + ev a.2 * y

theorem quadH (h : Hom o ev) {t : R} {y : Fin p} (ht : y * y = ev t) : Hom (quadO o t) (qev ev y) := by
 refine ⟨fun z => ?_, fun a b => ?_, fun a => ?_, fun a b => ?_, fun a hz => ?_⟩
 ·simp only [quadO, qev, h.int, toK_zero]; grind
 ·simp only [quadO, qev, h.add]; grind
 ·simp only [quadO, qev, h.neg]; grind
 ·simp only [quadO]
  split
  ·rename_i h1 h2
   simp only [qev, h.mul, h.int, h.isZ _ h1, h.isZ _ h2, toK_zero]; grind
  ·rename_i h1 h2
   simp only [qev, h.mul, h.isZ _ h1]; grind
  ·rename_i h1 h2
   simp only [qev, h.mul, h.isZ _ h2]; grind
  ·simp only [qev, h.mul, h.add, ← ht]; grind
 ·simp only [quadO, Bool.and_eq_true] at hz
  simp only [qev, h.isZ _ hz.1, h.isZ _ hz.2]; grind

variable (o)
def oX (x1 y1 z1 x2 y2 z2 : R) : R := o.add (o.mul (o.add (o.mul x1 y2) (o.mul x2 y1)) (o.add (o.mul y1 y2) (o.neg (o.mul (o.int 21) (o.mul z1 z2))))) (o.neg (o.mul (o.mul (o.int 21) (o.add (o.mul y1 z2) (o.mul y2 z1))) (o.add (o.mul x1 z2) (o.mul x2 z1))))
def oY (x1 y1 z1 x2 y2 z2 : R) : R := o.add (o.mul (o.add (o.mul y1 y2) (o.mul (o.int 21) (o.mul z1 z2))) (o.add (o.mul y1 y2) (o.neg (o.mul (o.int 21) (o.mul z1 z2))))) (o.mul (o.mul (o.int 63) (o.mul x1 x2)) (o.add (o.mul x1 z2) (o.mul x2 z1)))
def oZ (x1 y1 z1 x2 y2 z2 : R) : R := o.add (o.mul (o.add (o.mul y1 z2) (o.mul y2 z1)) (o.add (o.mul y1 y2) (o.mul (o.int 21) (o.mul z1 z2)))) (o.mul (o.mul (o.int 3) (o.mul x1 x2)) (o.add (o.mul x1 y2) (o.mul x2 y1)))
variable {o}

theorem toK_nat (n : Nat) : (toK (n : Int) : Fin p) = Fin.ofNat p n := by
 apply Fin.ext
 have := toK_val (p := p) (n : Int)
 simp only [Fin.val_ofNat]
 omega

theorem k21 : (toK 21 : Fin p) = 21 := toK_nat 21
theorem k63 : (toK 63 : Fin p) = 63 := toK_nat 63
theorem k3 : (toK 3 : Fin p) = 3 := toK_nat 3
theorem k7 : (toK 7 : Fin p) = 7 := toK_nat 7
theorem k1 : (toK 1 : Fin p) = 1 := toK_nat 1

theorem oX_ev (h : Hom o ev) (a b c d e f : R) : ev (oX o a b c d e f) = cX (ev a) (ev b) (ev c) (ev d) (ev e) (ev f) := by
 simp only [oX, cX, h.add, h.mul, h.neg, h.int, k21]
 try grind
theorem oY_ev (h : Hom o ev) (a b c d e f : R) : ev (oY o a b c d e f) = cY (ev a) (ev b) (ev c) (ev d) (ev e) (ev f) := by
 simp only [oY, cY, h.add, h.mul, h.neg, h.int, k21, k63]
 try grind
theorem oZ_ev (h : Hom o ev) (a b c d e f : R) : ev (oZ o a b c d e f) = cZ (ev a) (ev b) (ev c) (ev d) (ev e) (ev f) := by
 simp only [oZ, cZ, h.add, h.mul, h.int, k21, k3]
 try grind

end

def o1 := listO intO
def o2 := listO o1
def o3 := listO o2
abbrev R3 := List (List (List Int))
def vx1 : R3 := [[[0, 1]]]
def vx2 : R3 := [[[], [1]]]
def vx3 : R3 := [[], [[1]]]
def cube7 (v : R3) : R3 := o3.add (o3.mul v (o3.mul v v)) (o3.int 7)
def q1 := quadO o3 (cube7 vx1)
def q2 := quadO q1 (cube7 vx2, o3.int 0)
def q3 := quadO q2 ((cube7 vx3, o3.int 0), (o3.int 0, o3.int 0))
abbrev Q3 := ((R3 × R3) × (R3 × R3)) × ((R3 × R3) × (R3 × R3))
def z0 : R3 := []
def lift (v : R3) : Q3 := (((v, z0), (z0, z0)), ((z0, z0), (z0, z0)))
def X1 : Q3 := lift vx1
def X2 : Q3 := lift vx2
def X3 : Q3 := lift vx3
def one3 : R3 := [[[1]]]
def Y1 : Q3 := (((z0, one3), (z0, z0)), ((z0, z0), (z0, z0)))
def Y2 : Q3 := (((z0, z0), (one3, z0)), ((z0, z0), (z0, z0)))
def Y3 : Q3 := (((z0, z0), (z0, z0)), ((one3, z0), (z0, z0)))
def I3 : Q3 := lift one3

def aX := oX q3 X1 Y1 I3 X2 Y2 I3
def aY := oY q3 X1 Y1 I3 X2 Y2 I3
def aZ := oZ q3 X1 Y1 I3 X2 Y2 I3
def bX := oX q3 X2 Y2 I3 X3 Y3 I3
def bY := oY q3 X2 Y2 I3 X3 Y3 I3
def bZ := oZ q3 X2 Y2 I3 X3 Y3 I3
def lX := oX q3 aX aY aZ X3 Y3 I3
def lY := oY q3 aX aY aZ X3 Y3 I3
def lZ := oZ q3 aX aY aZ X3 Y3 I3
def rX := oX q3 X1 Y1 I3 bX bY bZ
def rY := oY q3 X1 Y1 I3 bX bY bZ
def rZ := oZ q3 X1 Y1 I3 bX bY bZ

theorem checkX : q3.isZ (q3.add (q3.mul lX rZ) (q3.neg (q3.mul rX lZ))) = true := by kernel_rfl

theorem checkY : q3.isZ (q3.add (q3.mul lY rZ) (q3.neg (q3.mul rY lZ))) = true := by kernel_rfl

theorem c_assoc {x1 y1 x2 y2 x3 y3 : Fin p} (h1 : y1 * y1 = x1 * x1 * x1 + 7) (h2 : y2 * y2 = x2 * x2 * x2 + 7) (h3 : y3 * y3 = x3 * x3 * x3 + 7) :
  cX (cX x1 y1 1 x2 y2 1) (cY x1 y1 1 x2 y2 1) (cZ x1 y1 1 x2 y2 1) x3 y3 1 * cZ x1 y1 1 (cX x2 y2 1 x3 y3 1) (cY x2 y2 1 x3 y3 1) (cZ x2 y2 1 x3 y3 1) =
   cX x1 y1 1 (cX x2 y2 1 x3 y3 1) (cY x2 y2 1 x3 y3 1) (cZ x2 y2 1 x3 y3 1) * cZ (cX x1 y1 1 x2 y2 1) (cY x1 y1 1 x2 y2 1) (cZ x1 y1 1 x2 y2 1) x3 y3 1 ∧
  cY (cX x1 y1 1 x2 y2 1) (cY x1 y1 1 x2 y2 1) (cZ x1 y1 1 x2 y2 1) x3 y3 1 * cZ x1 y1 1 (cX x2 y2 1 x3 y3 1) (cY x2 y2 1 x3 y3 1) (cZ x2 y2 1 x3 y3 1) =
   cY x1 y1 1 (cX x2 y2 1 x3 y3 1) (cY x2 y2 1 x3 y3 1) (cZ x2 y2 1 x3 y3 1) * cZ (cX x1 y1 1 x2 y2 1) (cY x1 y1 1 x2 y2 1) (cZ x1 y1 1 x2 y2 1) x3 y3 1 := by
 have e3 : Hom o3 (lev (lev (lev toK x1) x2) x3) := listH (listH (listH intH x1) x2) x3
 have v0 : lev (lev (lev (toK (p := p)) x1) x2) x3 z0 = 0 := rfl
 have vo : lev (lev (lev (toK (p := p)) x1) x2) x3 one3 = 1 := by simp only [one3, lev, k1]; grind
 have v1 : lev (lev (lev (toK (p := p)) x1) x2) x3 vx1 = x1 := by simp only [vx1, lev, k1, toK_zero]; grind
 have v2 : lev (lev (lev (toK (p := p)) x1) x2) x3 vx2 = x2 := by simp only [vx2, lev, k1]; grind
 have v3 : lev (lev (lev (toK (p := p)) x1) x2) x3 vx3 = x3 := by simp only [vx3, lev, k1]; grind
 generalize lev (lev (lev (toK (p := p)) x1) x2) x3 = ev at *
 have c7 : ∀ v, ev (cube7 v) = ev v * (ev v * ev v) + 7 := fun v => by simp only [cube7, e3.add, e3.mul, e3.int, k7]
 have i0 : ev (o3.int 0) = 0 := by rw [e3.int, toK_zero]
 have hq1 : Hom q1 (qev ev y1) := quadH e3 (by rw [c7, v1, h1]; grind)
 have hq2 : Hom q2 (qev (qev ev y1) y2) := quadH hq1 (by simp only [qev, c7, v2, i0, h2]; grind)
 have hq3 : Hom q3 (qev (qev (qev ev y1) y2) y3) := quadH hq2 (by simp only [qev, c7, v3, i0, h3]; grind)
 have w1 : qev (qev (qev ev y1) y2) y3 X1 = x1 := by simp only [qev, X1, lift, v0, v1]; grind
 have w2 : qev (qev (qev ev y1) y2) y3 X2 = x2 := by simp only [qev, X2, lift, v0, v2]; grind
 have w3 : qev (qev (qev ev y1) y2) y3 X3 = x3 := by simp only [qev, X3, lift, v0, v3]; grind
 have w4 : qev (qev (qev ev y1) y2) y3 Y1 = y1 := by simp only [qev, Y1, v0, vo]; grind
 have w5 : qev (qev (qev ev y1) y2) y3 Y2 = y2 := by simp only [qev, Y2, v0, vo]; grind
 have w6 : qev (qev (qev ev y1) y2) y3 Y3 = y3 := by simp only [qev, Y3, v0, vo]; grind
 have w7 : qev (qev (qev ev y1) y2) y3 I3 = 1 := by simp only [qev, I3, lift, v0, vo]; grind
 generalize qev (qev (qev ev y1) y2) y3 = ew at *
 have kx := hq3.isZ _ checkX
 have ky := hq3.isZ _ checkY
 simp only [hq3.add, hq3.mul, hq3.neg, lX, lY, lZ, rX, rY, rZ, aX, aY, aZ, bX, bY, bZ, oX_ev hq3, oY_ev hq3, oZ_ev hq3, w1, w2, w3, w4, w5, w6, w7] at kx ky
 constructor
 ·generalize cX (cX x1 y1 1 x2 y2 1) (cY x1 y1 1 x2 y2 1) (cZ x1 y1 1 x2 y2 1) x3 y3 1 * cZ x1 y1 1 (cX x2 y2 1 x3 y3 1) (cY x2 y2 1 x3 y3 1) (cZ x2 y2 1 x3 y3 1) = A at *
  generalize cX x1 y1 1 (cX x2 y2 1 x3 y3 1) (cY x2 y2 1 x3 y3 1) (cZ x2 y2 1 x3 y3 1) * cZ (cX x1 y1 1 x2 y2 1) (cY x1 y1 1 x2 y2 1) (cZ x1 y1 1 x2 y2 1) x3 y3 1 = B at *
  grind
 ·generalize cY (cX x1 y1 1 x2 y2 1) (cY x1 y1 1 x2 y2 1) (cZ x1 y1 1 x2 y2 1) x3 y3 1 * cZ x1 y1 1 (cX x2 y2 1 x3 y3 1) (cY x2 y2 1 x3 y3 1) (cZ x2 y2 1 x3 y3 1) = A at *
  generalize cY x1 y1 1 (cX x2 y2 1 x3 y3 1) (cY x2 y2 1 x3 y3 1) (cZ x2 y2 1 x3 y3 1) * cZ (cX x1 y1 1 x2 y2 1) (cY x1 y1 1 x2 y2 1) (cZ x1 y1 1 x2 y2 1) x3 y3 1 = B at *
  grind

end
end Go.Ec
