/- The plain law of a load that swings: it is linear, and it stays small. -/
import Derived.RowKit
namespace Go.Proofs.Ytliddinpfgpnfaa
open Go.RowKit

/-- A tick without a gust: displacement and speed, both times D. -/
def hom (num damp D : Int) (s : Int × Int) : Int × Int := (D * s.1 + (D * s.2 - num * s.1 - damp * s.2), D * s.2 - num * s.1 - damp * s.2)

/-- m ticks without a gust. -/
def homs (num damp D : Int) : Nat → Int × Int → Int × Int
  | 0, s => s
  | m + 1, s => homs num damp D m (hom num damp D s)

/-- A tick: displacement, speed, and what both are divided by. -/
def tk (num damp D : Int) (s : Int × Int × Int) (g : Int) : Int × Int × Int :=
  (D * s.1 + (D * s.2.1 - num * s.1 - damp * s.2.1 + g * (s.2.2 * D)), D * s.2.1 - num * s.1 - damp * s.2.1 + g * (s.2.2 * D), s.2.2 * D)

def runs (num damp D : Int) (s : Int × Int × Int) (gs : List Int) : Int × Int × Int := gs.foldl (tk num damp D) s

theorem hom_lin (num damp D x y : Int) (s t : Int × Int) : hom num damp D (x * s.1 + y * t.1, x * s.2 + y * t.2) = (x * (hom num damp D s).1 + y * (hom num damp D t).1, x * (hom num damp D s).2 + y * (hom num damp D t).2) := by
  simp only [hom, Prod.mk.injEq]
  constructor <;> grind

theorem homs_lin (num damp D x y : Int) (m : Nat) : ∀ s t : Int × Int, homs num damp D m (x * s.1 + y * t.1, x * s.2 + y * t.2) = (x * (homs num damp D m s).1 + y * (homs num damp D m t).1, x * (homs num damp D m s).2 + y * (homs num damp D m t).2) := by
  induction m with
  | zero => intro s t; rfl
  | succ m ih => intro s t; simp only [homs]; rw [hom_lin]; exact ih _ _

/-- All gusts, each carried to the end. -/
def gustSum (num damp D : Int) (d : Int) : List Int → Int × Int
  | [] => (0, 0)
  | g :: gs => (g * (d * D) * (homs num damp D gs.length (1, 1)).1 + (gustSum num damp D (d * D) gs).1, g * (d * D) * (homs num damp D gs.length (1, 1)).2 + (gustSum num damp D (d * D) gs).2)

theorem runs_eq (num damp D : Int) (gs : List Int) : ∀ a v d : Int, runs num damp D (a, v, d) gs =
    ((homs num damp D gs.length (a, v)).1 + (gustSum num damp D d gs).1, (homs num damp D gs.length (a, v)).2 + (gustSum num damp D d gs).2, d * D ^ gs.length) := by
  induction gs with
  | nil => intro a v d; simp [runs, homs, gustSum]
  | cons g gs ih =>
    intro a v d
    have h := ih (D * a + (D * v - num * a - damp * v + g * (d * D))) (D * v - num * a - damp * v + g * (d * D)) (d * D)
    have e : runs num damp D (a, v, d) (g :: gs) = runs num damp D (D * a + (D * v - num * a - damp * v + g * (d * D)), D * v - num * a - damp * v + g * (d * D), d * D) gs := rfl
    rw [e, h]
    have h2 := homs_lin num damp D 1 (g * (d * D)) gs.length (hom num damp D (a, v)) (1, 1)
    have e2 : (1 * (hom num damp D (a, v)).1 + g * (d * D) * ((1 : Int), (1 : Int)).1, 1 * (hom num damp D (a, v)).2 + g * (d * D) * ((1 : Int), (1 : Int)).2) =
        (D * a + (D * v - num * a - damp * v + g * (d * D)), D * v - num * a - damp * v + g * (d * D)) := by
      simp only [hom, Prod.mk.injEq]; constructor <;> grind
    rw [e2] at h2
    rw [h2]
    simp only [List.length_cons, homs, gustSum, Prod.mk.injEq]
    refine ⟨by grind, by grind, by rw [Int.pow_succ]; grind⟩

def ok3 (num damp D : Int) : Prop := 1 ≤ D ∧ D ≤ 4 ∧ 0 ≤ num ∧ num ≤ 2 * D ∧ 0 ≤ damp ∧ damp ≤ D

/-- The displacements and speeds of a unit start, held against the power of D. -/
def small1 (num damp D : Int) (m : Nat) : Bool :=
  let p := homs num damp D m (1, 0)
  let q := homs num damp D m (0, 1)
  let e := D ^ m * 40
  decide (p.1.natAbs ≤ e) && decide (p.2.natAbs ≤ e) && decide (q.1.natAbs ≤ e) && decide (q.2.natAbs ≤ e)

def smallAll : Bool := (List.range 4).all fun D => (List.range (2 * (D + 1) + 1)).all fun num => (List.range (D + 2)).all fun damp => (List.range 17).all fun m => small1 num damp ((D : Int) + 1) m

set_option maxRecDepth 100000 in
theorem smallAll_true : smallAll = true := by decide +kernel

theorem small (num damp D : Int) (h : ok3 num damp D) (m : Nat) (hm : m ≤ 16) : small1 num damp D m = true := by
  obtain ⟨h1, h2, h3, h4, h5, h6⟩ := h
  have H := smallAll_true
  simp only [smallAll, List.all_eq_true, List.mem_range] at H
  have := H (D - 1).toNat (by omega) num.toNat (by omega) damp.toNat (by omega) m (by omega)
  rwa [show ((num.toNat : Nat) : Int) = num by omega, show ((damp.toNat : Nat) : Int) = damp by omega, show (((D - 1).toNat : Nat) : Int) + 1 = D by omega] at this

theorem homs_bound (num damp D : Int) (h : ok3 num damp D) (m : Nat) (hm : m ≤ 16) (a v A : Int) (ha : a.natAbs ≤ A) (hv : v.natAbs ≤ A) :
    ((homs num damp D m (a, v)).1.natAbs : Int) ≤ 80 * A * D ^ m ∧ ((homs num damp D m (a, v)).2.natAbs : Int) ≤ 80 * A * D ^ m := by
  have hs := small num damp D h m hm
  simp only [small1, Bool.and_eq_true, decide_eq_true_eq] at hs
  obtain ⟨⟨⟨h1, h2⟩, h3⟩, h4⟩ := hs
  have hl := homs_lin num damp D a v m (1, 0) (0, 1)
  have e : (a * ((1 : Int), (0 : Int)).1 + v * ((0 : Int), (1 : Int)).1, a * ((1 : Int), (0 : Int)).2 + v * ((0 : Int), (1 : Int)).2) = (a, v) := by simp
  rw [e] at hl
  rw [hl]
  have key : ∀ p q : Int, (p.natAbs : Int) ≤ D ^ m * 40 → (q.natAbs : Int) ≤ D ^ m * 40 → ((a * p + v * q).natAbs : Int) ≤ 80 * A * D ^ m := by
    intro p q hp hq
    have t1 : ((a * p + v * q).natAbs : Int) ≤ (a * p).natAbs + (v * q).natAbs := by omega
    have t2 : ((a * p).natAbs : Int) ≤ A * (D ^ m * 40) := by rw [Int.natAbs_mul]; push_cast; exact Int.mul_le_mul ha hp (by omega) (by omega)
    have t3 : ((v * q).natAbs : Int) ≤ A * (D ^ m * 40) := by rw [Int.natAbs_mul]; push_cast; exact Int.mul_le_mul hv hq (by omega) (by omega)
    have t4 : 80 * A * D ^ m = A * (D ^ m * 40) + A * (D ^ m * 40) := by grind
    omega
  exact ⟨key _ _ h1 h3, key _ _ h2 h4⟩

theorem gust_bound (num damp D : Int) (h : ok3 num damp D) (gs : List Int) : ∀ d : Int, 0 < d → gs.length ≤ 16 → (∀ g ∈ gs, (g.natAbs : Int) ≤ 100) →
    ((gustSum num damp D d gs).1.natAbs : Int) ≤ 8000 * gs.length * (d * D ^ gs.length) ∧ ((gustSum num damp D d gs).2.natAbs : Int) ≤ 8000 * gs.length * (d * D ^ gs.length) := by
  induction gs with
  | nil => intro d hd _ _; simp [gustSum]
  | cons g gs ih =>
    intro d hd hl hg
    have hD : 0 < D := by obtain ⟨h1, _⟩ := h; omega
    have hdD : 0 < d * D := Int.mul_pos hd hD
    simp only [List.length_cons] at hl
    obtain ⟨i1, i2⟩ := ih (d * D) hdD (by omega) (fun x hx => hg x (List.mem_cons_of_mem _ hx))
    obtain ⟨b1, b2⟩ := homs_bound num damp D h gs.length (by omega) 1 1 1 (by decide) (by decide)
    have hg1 := hg g (List.mem_cons_self ..)
    have hp : 0 < D ^ gs.length := Int.pow_pos hD
    have e : d * D ^ (g :: gs).length = d * D * D ^ gs.length := by rw [List.length_cons, Int.pow_succ]; grind
    have key : ∀ p q : Int, (p.natAbs : Int) ≤ 80 * 1 * D ^ gs.length → (q.natAbs : Int) ≤ 8000 * gs.length * (d * D * D ^ gs.length) → ((g * (d * D) * p + q).natAbs : Int) ≤ 8000 * ((gs.length : Int) + 1) * (d * D * D ^ gs.length) := by
      intro p q hp1 hq1
      have t0 : ((g * (d * D)).natAbs : Int) ≤ 100 * (d * D) := by
        rw [Int.natAbs_mul]; push_cast
        have : ((d * D).natAbs : Int) = d * D := by omega
        rw [this]
        exact Int.mul_le_mul_of_nonneg_right hg1 (by omega)
      have t1 : ((g * (d * D) * p).natAbs : Int) ≤ 100 * (d * D) * (80 * 1 * D ^ gs.length) := by
        rw [Int.natAbs_mul]; push_cast; exact Int.mul_le_mul t0 hp1 (by omega) (by omega)
      have t2 : ((g * (d * D) * p + q).natAbs : Int) ≤ (g * (d * D) * p).natAbs + q.natAbs := by omega
      have t3 : 8000 * ((gs.length : Int) + 1) * (d * D * D ^ gs.length) = 8000 * gs.length * (d * D * D ^ gs.length) + 100 * (d * D) * (80 * 1 * D ^ gs.length) := by grind
      omega
    rw [e]
    have e2 : ((g :: gs).length : Int) = (gs.length : Int) + 1 := by simp
    rw [e2]
    exact ⟨key _ _ b1 i1, key _ _ b2 i2⟩

theorem pow_small (D : Int) (h1 : 1 ≤ D) (h2 : D ≤ 4) (n : Nat) (hn : n ≤ 16) : 1 ≤ D ^ n ∧ D ^ n ≤ 4294967296 := by
  refine ⟨by have : 0 < D ^ n := Int.pow_pos (by omega); omega, ?_⟩
  have : D ^ n ≤ 4 ^ n := by
    clear hn
    induction n with
    | zero => simp
    | succ n ih => rw [Int.pow_succ, Int.pow_succ]; exact Int.mul_le_mul ih h2 (by omega) (by have : (0 : Int) < 4 ^ n := Int.pow_pos (by omega); omega)
  have h3 : (4 : Int) ^ n ≤ 4 ^ 16 := by
    obtain ⟨k, hk⟩ : ∃ k, 16 = n + k := ⟨16 - n, by omega⟩
    rw [hk, Int.pow_add]
    have a1 : (0 : Int) < 4 ^ n := Int.pow_pos (by omega)
    have a2 : (0 : Int) < 4 ^ k := Int.pow_pos (by omega)
    have := Int.mul_le_mul_of_nonneg_left (show (1 : Int) ≤ 4 ^ k by omega) (show (0 : Int) ≤ 4 ^ n by omega)
    omega
  have h4 : (4 : Int) ^ 16 = 4294967296 := by decide
  omega

/-- A start, gusts and a sling as the limits allow. -/
structure Starts (num damp D a v : Int) (gs : List Int) : Prop where
  ok : ok3 num damp D
  a : (a.natAbs : Int) ≤ 1000
  v : (v.natAbs : Int) ≤ 1000
  len : gs.length ≤ 16
  gusts : ∀ g ∈ gs, (g.natAbs : Int) ≤ 100

theorem runs_bound {num damp D a v : Int} {gs : List Int} (h : Starts num damp D a v gs) :
    ((runs num damp D (a, v, 1) gs).1.natAbs : Int) ≤ 1000000000000000 ∧ ((runs num damp D (a, v, 1) gs).2.1.natAbs : Int) ≤ 1000000000000000 ∧ (runs num damp D (a, v, 1) gs).2.2 = D ^ gs.length := by
  obtain ⟨hok, ha, hv, hl, hg⟩ := h
  obtain ⟨b1, b2⟩ := homs_bound num damp D hok gs.length hl a v 1000 ha hv
  obtain ⟨c1, c2⟩ := gust_bound num damp D hok gs 1 (by omega) hl hg
  obtain ⟨p1, p2⟩ := pow_small D hok.1 hok.2.1 gs.length hl
  rw [runs_eq]
  have key : ∀ x y : Int, (x.natAbs : Int) ≤ 80 * 1000 * D ^ gs.length → (y.natAbs : Int) ≤ 8000 * gs.length * (1 * D ^ gs.length) → ((x + y).natAbs : Int) ≤ 1000000000000000 := by
    intro x y hx hy
    have t1 : ((x + y).natAbs : Int) ≤ x.natAbs + y.natAbs := by omega
    have t2 : 8000 * (gs.length : Int) * (1 * D ^ gs.length) ≤ 8000 * 16 * 4294967296 := Int.mul_le_mul (by omega) (by omega) (by omega) (by omega)
    omega
  exact ⟨key _ _ b1 c1, key _ _ b2 c2, by simp⟩

theorem Starts.take {num damp D a v : Int} {gs : List Int} (h : Starts num damp D a v gs) (k : Nat) : Starts num damp D a v (gs.take k) :=
  ⟨h.ok, h.a, h.v, by have := h.len; simp; omega, fun g hg => h.gusts g (List.mem_of_mem_take hg)⟩

theorem w64 {x : Int} (h : (x.natAbs : Int) ≤ 9000000000000000000) : wrap64 x = x := by unfold wrap64; omega

/-- A tick that starts small wraps nowhere. -/
theorem tick_plain {num damp D a v d g : Int} (hok : ok3 num damp D) (ha : (a.natAbs : Int) ≤ 1000000000000000) (hv : (v.natAbs : Int) ≤ 1000000000000000) (hd0 : 0 ≤ d) (hd : d ≤ 4294967296) (hg : (g.natAbs : Int) ≤ 100) :
    wrap64 (wrap64 (wrap64 (wrap64 (D * v) - wrap64 (num * a)) - wrap64 (damp * v)) + wrap64 (g * wrap64 (d * D))) = (tk num damp D (a, v, d) g).2.1 ∧ wrap64 (d * D) = d * D ∧
    wrap64 (wrap64 (D * a) + (tk num damp D (a, v, d) g).2.1) = (tk num damp D (a, v, d) g).1 := by
  obtain ⟨h1, h2, h3, h4, h5, h6⟩ := hok
  have m : ∀ x y X Y : Int, (x.natAbs : Int) ≤ X → (y.natAbs : Int) ≤ Y → ((x * y).natAbs : Int) ≤ X * Y := by
    intro x y X Y hx hy
    rw [Int.natAbs_mul]; push_cast; exact Int.mul_le_mul hx hy (by omega) (by omega)
  have m1 := m D v 4 1000000000000000 (by omega) hv
  have m2 := m num a 8 1000000000000000 (by omega) ha
  have m3 := m damp v 4 1000000000000000 (by omega) hv
  have m4 := m d D 4294967296 4 (by omega) (by omega)
  have m5 := m g (d * D) 100 (4294967296 * 4) hg m4
  have m6 := m D a 4 1000000000000000 (by omega) ha
  simp only [tk]
  rw [w64 (x := D * v) (by omega), w64 (x := num * a) (by omega), w64 (x := damp * v) (by omega), w64 (x := d * D) (by omega), w64 (x := g * (d * D)) (by omega), w64 (x := D * a) (by omega),
    w64 (x := D * v - num * a) (by omega), w64 (x := D * v - num * a - damp * v) (by omega), w64 (x := D * v - num * a - damp * v + g * (d * D)) (by omega), w64 (x := D * a + (D * v - num * a - damp * v + g * (d * D))) (by omega)]
  exact ⟨rfl, rfl, rfl⟩

end Go.Proofs.Ytliddinpfgpnfaa
