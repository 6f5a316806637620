/- The plain law of a set of starts and gusts: what each number alone brings, and that the displacement is the sum of these. -/
import Derived.Test.YtliddinpfgpnfaaL1
namespace Go.Proofs.Ytliddinpfgpnfaa
open Go.RowKit
set_option linter.unusedSimpArgs false

/-- The sum of the first n values. -/
def sumTo (n : Nat) (f : Nat → Int) : Int :=
  match n with
  | 0 => 0
  | k + 1 => sumTo k f + f k

theorem sumTo_succ (n : Nat) (f : Nat → Int) : sumTo (n + 1) f = sumTo n f + f n := rfl

theorem sumTo_head (n : Nat) (f : Nat → Int) : sumTo (n + 1) f = f 0 + sumTo n (fun i => f (i + 1)) := by
  induction n with
  | zero => simp [sumTo]
  | succ n ih => rw [sumTo_succ, ih, sumTo_succ]; omega

theorem sumTo_congr {n : Nat} {f g : Nat → Int} (h : ∀ i, i < n → f i = g i) : sumTo n f = sumTo n g := by
  induction n with
  | zero => rfl
  | succ n ih => rw [sumTo_succ, sumTo_succ, ih (fun i hi => h i (by omega)), h n (by omega)]

theorem sumTo_le {n : Nat} {f g : Nat → Int} (h : ∀ i, i < n → f i ≤ g i) : sumTo n f ≤ sumTo n g := by
  induction n with
  | zero => exact Int.le_refl _
  | succ n ih => rw [sumTo_succ, sumTo_succ]; have := ih (fun i hi => h i (by omega)); have := h n (by omega); omega

theorem sumTo_abs {n : Nat} {f : Nat → Int} {B : Int} (h : ∀ i, i < n → ((f i).natAbs : Int) ≤ B) : ((sumTo n f).natAbs : Int) ≤ n * B := by
  induction n with
  | zero => simp [sumTo]
  | succ n ih =>
    rw [sumTo_succ]
    have h1 := ih (fun i hi => h i (by omega))
    have h2 := h n (by omega)
    have h3 : ((n + 1 : Nat) : Int) * B = n * B + B := by push_cast; grind
    rw [h3]
    omega

theorem sumTo_zero {n : Nat} {f : Nat → Int} (h : ∀ i, i < n → f i = 0) : sumTo n f = 0 := by
  induction n with
  | zero => rfl
  | succ n ih => rw [sumTo_succ, ih (fun i hi => h i (by omega)), h n (by omega)]; rfl

theorem sumTo_single {n t : Nat} (ht : t < n) (f : Nat → Int) : sumTo n (fun j => (if t = j then 1 else 0) * f j) = f t := by
  induction n with
  | zero => omega
  | succ n ih =>
    rw [sumTo_succ]
    by_cases h : t < n
    · rw [ih h, if_neg (by omega)]; omega
    · obtain rfl : t = n := by omega
      rw [sumTo_zero (fun i hi => by rw [if_neg (by omega)]; omega), if_pos rfl]; omega

theorem sumTo_add (n : Nat) (f g : Nat → Int) : sumTo n (fun i => f i + g i) = sumTo n f + sumTo n g := by
  induction n with
  | zero => rfl
  | succ n ih => rw [sumTo_succ, sumTo_succ, sumTo_succ, ih]; omega

/-- What gust t of n brings. -/
def gw (num damp D : Int) (n t : Nat) : Int := D ^ (t + 1) * (homs num damp D (n - t - 1) (1, 1)).1

theorem gustSum_eq (num damp D : Int) (gs : List Int) : ∀ d : Int, (gustSum num damp D d gs).1 = sumTo gs.length (fun t => gs.getD t 0 * (d * gw num damp D gs.length t)) := by
  induction gs with
  | nil => intro d; rfl
  | cons g gs ih =>
    intro d
    rw [List.length_cons, sumTo_head]
    simp only [gustSum]
    rw [ih]
    have h0 : g * (d * D) * (homs num damp D gs.length (1, 1)).1 = (g :: gs).getD 0 0 * (d * gw num damp D (gs.length + 1) 0) := by
      simp only [List.getD_cons_zero, gw, Nat.zero_add, Int.pow_one, Nat.sub_zero, Nat.add_sub_cancel]; grind
    rw [h0]
    congr 1
    refine sumTo_congr (fun t ht => ?_)
    simp only [List.getD_cons_succ, gw]
    rw [show gs.length + 1 - (t + 1) - 1 = gs.length - t - 1 by omega, Int.pow_succ D (t + 1)]
    grind

def u1 (i t : Nat) : Int := if i = t + 2 then 1 else 0
/-- One gust alone. -/
def unitG (n i : Nat) : List Int := (List.range n).map (u1 i)
def pa (i : Nat) : Int := if i = 0 then 1 else 0
def pv (i : Nat) : Int := if i = 1 then 1 else 0
/-- What the i-th number alone, if it is 1, brings to the displacement behind n ticks. -/
def partN (num damp D : Int) (n i : Nat) : Int := (runs num damp D (pa i, pv i, 1) (unitG n i)).1
def partsL (num damp D : Int) (n : Nat) : List Int := (List.range (n + 2)).map (partN num damp D n)

theorem unitG_len (n i : Nat) : (unitG n i).length = n := by simp [unitG]
theorem unitG_at {n i t : Nat} (h : t < n) : (unitG n i)[t]? = some (u1 i t) := by simp [unitG, h]
theorem unitG_getD {n i t : Nat} (h : t < n) : (unitG n i).getD t 0 = u1 i t := by rw [List.getD_eq_getElem?_getD, unitG_at h]; rfl

theorem disp_eq (num damp D a v : Int) (gs : List Int) : (runs num damp D (a, v, 1) gs).1 = a * (homs num damp D gs.length (1, 0)).1 + v * (homs num damp D gs.length (0, 1)).1 + sumTo gs.length (fun t => gs.getD t 0 * gw num damp D gs.length t) := by
  rw [runs_eq]
  have h := homs_lin num damp D a v gs.length (1, 0) (0, 1)
  have e : (a * ((1 : Int), (0 : Int)).1 + v * ((0 : Int), (1 : Int)).1, a * ((1 : Int), (0 : Int)).2 + v * ((0 : Int), (1 : Int)).2) = (a, v) := by simp
  rw [e] at h
  rw [h, gustSum_eq]
  dsimp only
  rw [sumTo_congr (n := gs.length) (f := fun t => gs.getD t 0 * (1 * gw num damp D gs.length t)) (g := fun t => gs.getD t 0 * gw num damp D gs.length t) (fun t _ => by rw [Int.one_mul])]

theorem partN_zero (num damp D : Int) (n : Nat) : partN num damp D n 0 = (homs num damp D n (1, 0)).1 := by
  unfold partN
  rw [disp_eq, unitG_len, sumTo_zero (fun t ht => by rw [unitG_getD ht, u1, if_neg (by omega)]; omega)]
  simp [pa, pv]

theorem partN_one (num damp D : Int) (n : Nat) : partN num damp D n 1 = (homs num damp D n (0, 1)).1 := by
  unfold partN
  rw [disp_eq, unitG_len, sumTo_zero (fun t ht => by rw [unitG_getD ht, u1, if_neg (by omega)]; omega)]
  simp [pa, pv]

theorem partN_gust (num damp D : Int) {n t : Nat} (h : t < n) : partN num damp D n (t + 2) = gw num damp D n t := by
  unfold partN
  rw [disp_eq, unitG_len, sumTo_congr (g := fun j => (if t = j then 1 else 0) * gw num damp D n j) (fun j hj => by
    rw [unitG_getD hj, u1]
    congr 1
    by_cases e : t = j
    · rw [if_pos (by omega), if_pos e]
    · rw [if_neg (by omega), if_neg e]), sumTo_single h]
  simp [pa, pv]

/-- The i-th number of a start and gusts. -/
def xAt (a v : Int) (gs : List Int) (i : Nat) : Int := if i = 0 then a else if i = 1 then v else gs.getD (i - 2) 0

theorem disp_sum (num damp D a v : Int) (gs : List Int) : (runs num damp D (a, v, 1) gs).1 = sumTo (gs.length + 2) (fun i => partN num damp D gs.length i * xAt a v gs i) := by
  rw [disp_eq, sumTo_head, sumTo_head, sumTo_congr (n := gs.length) (g := fun t => gs.getD t 0 * gw num damp D gs.length t) (f := fun i => partN num damp D gs.length (i + 1 + 1) * xAt a v gs (i + 1 + 1)) (fun i hi => by
    rw [show i + 1 + 1 = i + 2 from rfl, partN_gust num damp D hi]
    simp only [xAt]
    rw [if_neg (by omega), if_neg (by omega), show i + 2 - 2 = i by omega, Int.mul_comm])]
  rw [partN_zero, show 0 + 1 = 1 from rfl, partN_one]
  simp only [xAt, if_pos, show ¬ (1 = 0) by omega, if_false]
  grind

/-- The end of a span with which a part brings the most, or the least. -/
def endV (part lo hi : Int) (high : Bool) : Int := if (high && decide (0 < part)) || (!high && decide (part < 0)) then hi else lo

theorem end_most {p lo hi x : Int} (h0 : lo ≤ x) (h1 : x ≤ hi) : p * x ≤ p * endV p lo hi true := by
  unfold endV
  by_cases h : 0 < p
  · simp only [h, decide_true, Bool.and_self, Bool.true_or, if_true]; exact Int.mul_le_mul_of_nonneg_left h1 (by omega)
  · simp only [h, decide_false, Bool.and_false, Bool.not_true, Bool.false_and, Bool.or_self, if_false]
    exact Int.mul_le_mul_of_nonpos_left (by omega) h0

theorem end_least {p lo hi x : Int} (h0 : lo ≤ x) (h1 : x ≤ hi) : p * endV p lo hi false ≤ p * x := by
  unfold endV
  by_cases h : p < 0
  · simp only [h, decide_true, Bool.and_true, Bool.not_false, Bool.or_true, if_true]; exact Int.mul_le_mul_of_nonpos_left (by omega) h1
  · simp only [h, decide_false, Bool.and_false, Bool.false_and, Bool.or_self, if_false]
    exact Int.mul_le_mul_of_nonneg_left h0 (by omega)

theorem endV_in {p lo hi : Int} {high : Bool} (h : lo ≤ hi) : lo ≤ endV p lo hi high ∧ endV p lo hi high ≤ hi := by
  unfold endV
  split <;> omega

theorem endV_abs {p lo hi : Int} {high : Bool} {B : Int} (h : (lo.natAbs : Int) ≤ B) (h' : (hi.natAbs : Int) ≤ B) : ((endV p lo hi high).natAbs : Int) ≤ B := by
  unfold endV
  split <;> assumption

/-- The span of the i-th number. -/
def spanAt (b0 b1 g : Int × Int) (i : Nat) : Int × Int := if i = 0 then b0 else if i = 1 then b1 else g

/-- What the i-th number brings at the end of its span. -/
def termN (num damp D : Int) (b0 b1 g : Int × Int) (n : Nat) (high : Bool) (i : Nat) : Int := partN num damp D n i * endV (partN num damp D n i) (spanAt b0 b1 g i).1 (spanAt b0 b1 g i).2 high
def mostN (num damp D : Int) (b0 b1 g : Int × Int) (n : Nat) (high : Bool) : Int := sumTo (n + 2) (termN num damp D b0 b1 g n high)
/-- The numbers with which it is so. -/
def pickN (num damp D : Int) (b0 b1 g : Int × Int) (n : Nat) (high : Bool) (i : Nat) : Int := endV (partN num damp D n i) (spanAt b0 b1 g i).1 (spanAt b0 b1 g i).2 high

theorem part_abs {num damp D : Int} (h : ok3 num damp D) {n i : Nat} (hn : n ≤ 16) (hi : i < n + 2) : ((partN num damp D n i).natAbs : Int) ≤ 343597383680 := by
  obtain ⟨p1, p2⟩ := pow_small D h.1 h.2.1 n hn
  have base : ∀ x : Int, (x.natAbs : Int) ≤ 80 * 1 * D ^ n → (x.natAbs : Int) ≤ 343597383680 := fun x hx => by omega
  match i, hi with
  | 0, _ => rw [partN_zero]; exact base _ (homs_bound num damp D h n hn 1 0 1 (by decide) (by decide)).1
  | 1, _ => rw [partN_one]; exact base _ (homs_bound num damp D h n hn 0 1 1 (by decide) (by decide)).1
  | t + 2, hi =>
    have ht : t < n := by omega
    rw [partN_gust num damp D ht]
    refine base _ ?_
    have h1 := (homs_bound num damp D h (n - t - 1) (by omega) 1 1 1 (by decide) (by decide)).1
    unfold gw
    rw [Int.natAbs_mul]
    push_cast
    have e : D ^ n = D ^ (t + 1) * D ^ (n - t - 1) := by rw [← Int.pow_add]; congr 1; omega
    have hp : 0 < D ^ (t + 1) := Int.pow_pos (by have := h.1; omega)
    rw [e, show ((D ^ (t + 1)).natAbs : Int) = D ^ (t + 1) by omega]
    have := Int.mul_le_mul_of_nonneg_left h1 (show 0 ≤ D ^ (t + 1) by omega)
    have e2 : D ^ (t + 1) * (80 * 1 * D ^ (n - t - 1)) = 80 * 1 * (D ^ (t + 1) * D ^ (n - t - 1)) := by grind
    omega

/-- The spans of a start and of gusts are small. -/
def SmallS (b0 b1 g : Int × Int) : Prop := ∀ i, ((spanAt b0 b1 g i).1.natAbs : Int) ≤ 1000 ∧ ((spanAt b0 b1 g i).2.natAbs : Int) ≤ 1000

theorem smallS {b0 b1 g : Int × Int} (h0 : (b0.1.natAbs : Int) ≤ 1000 ∧ (b0.2.natAbs : Int) ≤ 1000) (h1 : (b1.1.natAbs : Int) ≤ 1000 ∧ (b1.2.natAbs : Int) ≤ 1000) (h2 : (g.1.natAbs : Int) ≤ 1000 ∧ (g.2.natAbs : Int) ≤ 1000) : SmallS b0 b1 g := by
  intro i
  unfold spanAt
  split
  · exact h0
  · split
    · exact h1
    · exact h2

theorem term_abs {num damp D : Int} (h : ok3 num damp D) {b0 b1 g : Int × Int} (hS : SmallS b0 b1 g) {n i : Nat} (hn : n ≤ 16) (hi : i < n + 2) (high : Bool) : ((termN num damp D b0 b1 g n high i).natAbs : Int) ≤ 343597383680000 := by
  unfold termN
  rw [Int.natAbs_mul]
  push_cast
  have h1 := part_abs h hn hi
  have h2 := endV_abs (p := partN num damp D n i) (high := high) (hS i).1 (hS i).2
  have := Int.mul_le_mul h1 h2 (by omega) (by omega)
  omega

theorem sum_abs {num damp D : Int} (h : ok3 num damp D) {b0 b1 g : Int × Int} (hS : SmallS b0 b1 g) {n k : Nat} (hn : n ≤ 16) (hk : k ≤ n + 2) (high : Bool) : ((sumTo k (termN num damp D b0 b1 g n high)).natAbs : Int) ≤ 6184752906240000 := by
  have := sumTo_abs (n := k) (f := termN num damp D b0 b1 g n high) (B := 343597383680000) (fun i hi => term_abs h hS hn (by omega) high)
  omega

/-- A start and gusts are in the sets. -/
def InS (b0 b1 g : Int × Int) (a v : Int) (gs : List Int) : Prop := (b0.1 ≤ a ∧ a ≤ b0.2) ∧ (b1.1 ≤ v ∧ v ≤ b1.2) ∧ ∀ x ∈ gs, g.1 ≤ x ∧ x ≤ g.2

theorem InS.at {b0 b1 g : Int × Int} {a v : Int} {gs : List Int} (h : InS b0 b1 g a v gs) {i : Nat} (hi : i < gs.length + 2) : (spanAt b0 b1 g i).1 ≤ xAt a v gs i ∧ xAt a v gs i ≤ (spanAt b0 b1 g i).2 := by
  match i, hi with
  | 0, _ => simpa [spanAt, xAt] using h.1
  | 1, _ => simpa [spanAt, xAt] using h.2.1
  | t + 2, hi =>
    have ht : t < gs.length := by omega
    have := h.2.2 gs[t] (List.getElem_mem ht)
    simpa [spanAt, xAt, List.getD_eq_getElem?_getD, ht] using this

theorem disp_most (num damp D : Int) {b0 b1 g : Int × Int} {a v : Int} {gs : List Int} (h : InS b0 b1 g a v gs) :
    mostN num damp D b0 b1 g gs.length false ≤ (runs num damp D (a, v, 1) gs).1 ∧ (runs num damp D (a, v, 1) gs).1 ≤ mostN num damp D b0 b1 g gs.length true := by
  rw [disp_sum]
  exact ⟨sumTo_le (fun i hi => end_least (h.at hi).1 (h.at hi).2), sumTo_le (fun i hi => end_most (h.at hi).1 (h.at hi).2)⟩

/-- The gusts that are picked. -/
def rowN (num damp D : Int) (b0 b1 g : Int × Int) (n : Nat) (high : Bool) : List Int := (List.range n).map (fun t => pickN num damp D b0 b1 g n high (t + 2))

theorem rowN_len (num damp D : Int) (b0 b1 g : Int × Int) (n : Nat) (high : Bool) : (rowN num damp D b0 b1 g n high).length = n := by simp [rowN]

theorem disp_pick (num damp D : Int) (b0 b1 g : Int × Int) (n : Nat) (high : Bool) :
    (runs num damp D (pickN num damp D b0 b1 g n high 0, pickN num damp D b0 b1 g n high 1, 1) (rowN num damp D b0 b1 g n high)).1 = mostN num damp D b0 b1 g n high := by
  rw [disp_sum, rowN_len]
  refine sumTo_congr (fun i hi => ?_)
  unfold termN
  congr 1
  match i, hi with
  | 0, _ => rfl
  | 1, _ => rfl
  | t + 2, hi =>
    have ht : t < n := by omega
    simp [xAt, rowN, List.getD_eq_getElem?_getD, ht, pickN]

theorem pick_in (num damp D : Int) {b0 b1 g : Int × Int} (h0 : b0.1 ≤ b0.2) (h1 : b1.1 ≤ b1.2) (h2 : g.1 ≤ g.2) (n : Nat) (high : Bool) :
    InS b0 b1 g (pickN num damp D b0 b1 g n high 0) (pickN num damp D b0 b1 g n high 1) (rowN num damp D b0 b1 g n high) := by
  refine ⟨endV_in h0, endV_in h1, ?_⟩
  intro x hx
  simp only [rowN, List.mem_map, List.mem_range] at hx
  obtain ⟨t, ht, rfl⟩ := hx
  have : spanAt b0 b1 g (t + 2) = g := by simp [spanAt]
  unfold pickN
  rw [this]
  exact endV_in h2

theorem partsL_at {num damp D : Int} {n i : Nat} (h : i < n + 2) : (partsL num damp D n)[i]? = some (partN num damp D n i) := by simp [partsL, h]
theorem partsL_len (num damp D : Int) (n : Nat) : (partsL num damp D n).length = n + 2 := by simp [partsL]

/-- Smaller sets bring less. -/
theorem most_sub (num damp D : Int) {b0 b1 g c0 c1 h : Int × Int} {n : Nat} (hs : ∀ i, i < n + 2 → (spanAt b0 b1 g i).1 ≤ (spanAt c0 c1 h i).1 ∧ (spanAt c0 c1 h i).1 ≤ (spanAt c0 c1 h i).2 ∧ (spanAt c0 c1 h i).2 ≤ (spanAt b0 b1 g i).2) :
    mostN num damp D b0 b1 g n false ≤ mostN num damp D c0 c1 h n false ∧ mostN num damp D c0 c1 h n true ≤ mostN num damp D b0 b1 g n true := by
  refine ⟨sumTo_le (fun i hi => ?_), sumTo_le (fun i hi => ?_)⟩
  · obtain ⟨q1, q2, q3⟩ := hs i hi
    have := endV_in (p := partN num damp D n i) (high := false) q2
    exact end_least (by omega) (by omega)
  · obtain ⟨q1, q2, q3⟩ := hs i hi
    have := endV_in (p := partN num damp D n i) (high := true) q2
    exact end_most (by omega) (by omega)

end Go.Proofs.Ytliddinpfgpnfaa
