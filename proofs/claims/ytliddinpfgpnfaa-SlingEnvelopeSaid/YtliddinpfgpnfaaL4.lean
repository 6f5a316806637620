/- The plain law of SlingLinear: sums and opposites of swings, and their fractions. -/
import Derived.Test.YtliddinpfgpnfaaA5
import Derived.IntWalk
namespace Go.Proofs.Ytliddinpfgpnfaa
open Go Go.RowKit

theorem fr_at (num damp D : Int) (gs : List Int) : ∀ (s : Int × Int × Int) (t : Nat), t < gs.length →
    (fr num damp D s gs)[t]? = some (lowP (runs num damp D s (gs.take (t + 1))).1 (runs num damp D s (gs.take (t + 1))).2.2) := by
  induction gs with
  | nil => intro s t h; simp at h
  | cons g gs ih =>
    intro s t h
    cases t with
    | zero => simp [fr, runs]
    | succ t => simp only [fr, List.getElem?_cons_succ, List.take_succ_cons]; rw [ih _ t (by simpa using h)]; rfl

theorem low_facts (A d : Int) (hd : 0 < d) : 0 < (lowP A d).2 ∧ (lowP A d).2 ∣ d ∧ (lowP A d).1 * (d / (lowP A d).2) = A := by
  have g0 : 0 < (Int.gcd A d : Int) := by have := Int.gcd_pos_of_ne_zero_right A (show d ≠ 0 by omega); omega
  have hx' := Int.gcd_dvd_left A d
  have hy' := Int.gcd_dvd_right A d
  simp only [lowP]
  generalize (Int.gcd A d : Int) = g at *
  obtain ⟨x, hx⟩ := hx'
  obtain ⟨y, hy⟩ := hy'
  have y0 : 0 < y := by
    by_cases h : 0 < y
    · exact h
    · have := Int.mul_nonpos_of_nonneg_of_nonpos (show 0 ≤ g by omega) (show y ≤ 0 by omega); omega
  have e1 : A / g = x := by rw [hx]; exact Int.mul_ediv_cancel_left _ (by omega)
  have e2 : d / g = y := by rw [hy]; exact Int.mul_ediv_cancel_left _ (by omega)
  have e3 : d / y = g := by rw [hy]; exact Int.mul_ediv_cancel _ (by omega)
  rw [e1, e2, e3]
  exact ⟨y0, ⟨g, by rw [hy, Int.mul_comm]⟩, by rw [hx, Int.mul_comm]⟩

theorem low_neg (A d : Int) : lowP (-A) d = (-(lowP A d).1, (lowP A d).2) := by
  simp only [lowP, Int.neg_gcd, Prod.mk.injEq, and_true]
  exact Int.neg_ediv_of_dvd (Int.gcd_dvd_left A d)

theorem runs_neg (num damp D : Int) (gs : List Int) : ∀ a v d : Int, runs num damp D (-a, -v, d) (gs.map fun x => -x) = (-(runs num damp D (a, v, d) gs).1, -(runs num damp D (a, v, d) gs).2.1, (runs num damp D (a, v, d) gs).2.2) := by
  induction gs with
  | nil => intro a v d; rfl
  | cons g gs ih =>
    intro a v d
    have e : tk num damp D (-a, -v, d) (-g) = (-(tk num damp D (a, v, d) g).1, -(tk num damp D (a, v, d) g).2.1, (tk num damp D (a, v, d) g).2.2) := by
      simp only [tk, Prod.mk.injEq, and_true]; constructor <;> grind
    have h := ih (tk num damp D (a, v, d) g).1 (tk num damp D (a, v, d) g).2.1 (tk num damp D (a, v, d) g).2.2
    simp only [runs, List.map_cons, List.foldl_cons] at *
    rw [e]; exact h

theorem fr_neg (num damp D : Int) (gs : List Int) : ∀ a v d : Int, fr num damp D (-a, -v, d) (gs.map fun x => -x) = (fr num damp D (a, v, d) gs).map fun p => (-p.1, p.2) := by
  induction gs with
  | nil => intro a v d; rfl
  | cons g gs ih =>
    intro a v d
    have e : tk num damp D (-a, -v, d) (-g) = (-(tk num damp D (a, v, d) g).1, -(tk num damp D (a, v, d) g).2.1, (tk num damp D (a, v, d) g).2.2) := by
      simp only [tk, Prod.mk.injEq, and_true]; constructor <;> grind
    have h := ih (tk num damp D (a, v, d) g).1 (tk num damp D (a, v, d) g).2.1 (tk num damp D (a, v, d) g).2.2
    simp only [fr, List.map_cons] at *
    rw [e, low_neg]
    exact congrArg _ h

theorem runs_add (num damp D : Int) (gs : List Int) : ∀ (hs : List Int) (a v a' v' d : Int), gs.length = hs.length →
    runs num damp D (a + a', v + v', d) (List.zipWith (fun x y => x + y) gs hs) =
      ((runs num damp D (a, v, d) gs).1 + (runs num damp D (a', v', d) hs).1, (runs num damp D (a, v, d) gs).2.1 + (runs num damp D (a', v', d) hs).2.1, (runs num damp D (a, v, d) gs).2.2) ∧
    (runs num damp D (a', v', d) hs).2.2 = (runs num damp D (a, v, d) gs).2.2 := by
  induction gs with
  | nil => intro hs a v a' v' d h; cases hs with | nil => exact ⟨rfl, rfl⟩ | cons _ _ => simp at h
  | cons g gs ih =>
    intro hs a v a' v' d h
    cases hs with
    | nil => simp at h
    | cons y hs =>
      have e : tk num damp D (a + a', v + v', d) (g + y) = ((tk num damp D (a, v, d) g).1 + (tk num damp D (a', v', d) y).1, (tk num damp D (a, v, d) g).2.1 + (tk num damp D (a', v', d) y).2.1, d * D) := by
        simp only [tk, Prod.mk.injEq, and_true]; constructor <;> grind
      have h2 := ih hs (tk num damp D (a, v, d) g).1 (tk num damp D (a, v, d) g).2.1 (tk num damp D (a', v', d) y).1 (tk num damp D (a', v', d) y).2.1 (d * D) (by simpa using h)
      simp only [runs, List.zipWith_cons_cons, List.foldl_cons] at *
      rw [e]; exact h2

theorem wi_iff (n lo hi : Int) : wi n lo hi = true ↔ lo ≤ n ∧ n ≤ hi := by simp [wi]

theorem badG_iff (gs : List Int) : badG gs = false ↔ ∀ g ∈ gs, -100 ≤ g ∧ g ≤ 100 := by
  simp [badG, wi]

theorem swingE_mk {num damp D a v : Int} {gs : List Int} (h1 : slingV num damp D = 0) (h2 : gs.length ≤ 16) (h3 : -1000 ≤ a ∧ a ≤ 1000) (h4 : -1000 ≤ v ∧ v ≤ 1000) (h5 : ∀ g ∈ gs, -100 ≤ g ∧ g ≤ 100) : swingE num damp D a v gs = 0 := by
  rw [swingE, if_pos h1, if_neg (by omega), if_pos]
  rw [(wi_iff _ _ _).2 h3, (wi_iff _ _ _).2 h4, (badG_iff _).2 h5]; rfl

theorem swingE_facts {num damp D a v : Int} {gs : List Int} (h : swingE num damp D a v gs = 0) : slingV num damp D = 0 ∧ gs.length ≤ 16 ∧ (-1000 ≤ a ∧ a ≤ 1000) ∧ (-1000 ≤ v ∧ v ≤ 1000) ∧ (∀ g ∈ gs, -100 ≤ g ∧ g ≤ 100) ∧ Starts num damp D a v gs := by
  obtain ⟨h1, h2, h3, h4, h5⟩ := swingE_zero h
  rw [Bool.and_eq_true, wi_iff, wi_iff] at h3
  exact ⟨h1, h2, h3.1, h3.2, (badG_iff _).1 h4, h5⟩

theorem wr {x : Int} (h : -9223372036854775808 ≤ x) (h' : x ≤ 9223372036854775807) : IntKind.i64.wrap x = x := IntWalk.i64_in x ⟨h, h'⟩

theorem zm_eq {gs : List Int} (h : ∀ g ∈ gs, -100 ≤ g ∧ g ≤ 100) : (gs.map fun x => IntKind.i64.wrap (-x)) = gs.map fun x => -x :=
  List.map_congr_left fun x hx => wr (by have := h x hx; omega) (by have := h x hx; omega)

theorem zb_eq (gs : List Int) : ∀ hs : List Int, (∀ g ∈ gs, -100 ≤ g ∧ g ≤ 100) → (∀ g ∈ hs, -100 ≤ g ∧ g ≤ 100) → List.zipWith (fun x y => IntKind.i64.wrap (x + y)) gs hs = List.zipWith (fun x y => x + y) gs hs := by
  induction gs with
  | nil => intro hs _ _; simp
  | cons g gs ih =>
    intro hs h1 h2
    cases hs with
    | nil => simp
    | cons y hs =>
      simp only [List.zipWith_cons_cons]
      have b1 := h1 g (by simp)
      have b2 := h2 y (by simp)
      rw [ih hs (fun g hg => h1 g (by simp [hg])) (fun g hg => h2 g (by simp [hg])), wr (by omega) (by omega)]

theorem lin_minus {num damp D a v : Int} {gs : List Int} (h : swingE num damp D a v gs = 0) :
    swingE num damp D (IntKind.i64.wrap (-a)) (IntKind.i64.wrap (-v)) (gs.map fun x => IntKind.i64.wrap (-x)) = 0 ∧
    swingL num damp D (IntKind.i64.wrap (-a)) (IntKind.i64.wrap (-v)) (gs.map fun x => IntKind.i64.wrap (-x)) = (swingL num damp D a v gs).map fun p => (-p.1, p.2) := by
  obtain ⟨h1, h2, h3, h4, h5, hS⟩ := swingE_facts h
  rw [zm_eq h5, wr (x := -a) (by omega) (by omega), wr (x := -v) (by omega) (by omega)]
  have e : swingE num damp D (-a) (-v) (gs.map fun x => -x) = 0 := swingE_mk h1 (by simpa using h2) (by omega) (by omega) (fun g hg => by
    simp only [List.mem_map] at hg; obtain ⟨x, hx, rfl⟩ := hg; have := h5 x hx; omega)
  refine ⟨e, ?_⟩
  rw [swingL, if_pos e, swingL, if_pos h, fr_neg]

/-- What the law asks of fraction k: of a, b, and of the sum. -/
structure LinRow (D : Int) (k : Nat) (p : Int × Int) : Prop where
  pos : 0 < p.2
  dvd : p.2 ∣ D ^ (k + 1)
  small : (p.1 * (D ^ (k + 1) / p.2)).natAbs ≤ 1000000000000000

theorem swingL_at {num damp D a v : Int} {gs : List Int} (h : swingE num damp D a v gs = 0) {k : Nat} (hk : k < gs.length) :
    ∃ p, (swingL num damp D a v gs)[k]? = some p ∧ LinRow D k p ∧ p.1 * (D ^ (k + 1) / p.2) = (runs num damp D (a, v, 1) (gs.take (k + 1))).1 := by
  obtain ⟨h1, h2, h3, h4, h5, hS⟩ := swingE_facts h
  obtain ⟨r1, r2, r3⟩ := runs_bound (hS.take (k + 1))
  have hl : (gs.take (k + 1)).length = k + 1 := by simp; omega
  rw [hl] at r3
  obtain ⟨p1, p2⟩ := pow_small D hS.ok.1 hS.ok.2.1 (k + 1) (by omega)
  obtain ⟨l1, l2, l3⟩ := low_facts (runs num damp D (a, v, 1) (gs.take (k + 1))).1 (D ^ (k + 1)) (by omega)
  refine ⟨lowP (runs num damp D (a, v, 1) (gs.take (k + 1))).1 (D ^ (k + 1)), ?_, ⟨l1, l2, ?_⟩, l3⟩
  · rw [swingL, if_pos h, fr_at _ _ _ _ _ _ hk, r3]
  · rw [l3]; omega

theorem lin_both {num damp D a v a' v' : Int} {gs hs : List Int} (h : swingE num damp D a v gs = 0) (h' : swingE num damp D a' v' hs = 0) (hl : gs.length = hs.length)
    (hb : swingE num damp D (IntKind.i64.wrap (a + a')) (IntKind.i64.wrap (v + v')) (List.zipWith (fun x y => IntKind.i64.wrap (x + y)) gs hs) = 0) {k : Nat} (hk : k < gs.length) :
    ∃ p q r, (swingL num damp D a v gs)[k]? = some p ∧ (swingL num damp D a' v' hs)[k]? = some q ∧
      (swingL num damp D (IntKind.i64.wrap (a + a')) (IntKind.i64.wrap (v + v')) (List.zipWith (fun x y => IntKind.i64.wrap (x + y)) gs hs))[k]? = some r ∧
      LinRow D k p ∧ LinRow D k q ∧ LinRow D k r ∧ p.1 * (D ^ (k + 1) / p.2) + q.1 * (D ^ (k + 1) / q.2) = r.1 * (D ^ (k + 1) / r.2) := by
  obtain ⟨f1, f2, f3, f4, f5, fS⟩ := swingE_facts h
  obtain ⟨g1, g2, g3, g4, g5, gS⟩ := swingE_facts h'
  obtain ⟨p, p1, p2, p3⟩ := swingL_at h hk
  obtain ⟨q, q1, q2, q3⟩ := swingL_at h' (show k < hs.length by omega)
  obtain ⟨r, r1, r2, r3⟩ := swingL_at hb (k := k) (by simp; omega)
  refine ⟨p, q, r, p1, q1, r1, p2, q2, r2, ?_⟩
  rw [p3, q3, r3, zb_eq gs hs f5 g5, wr (x := a + a') (by omega) (by omega), wr (x := v + v') (by omega) (by omega), List.take_zipWith]
  have := (runs_add num damp D (gs.take (k + 1)) (hs.take (k + 1)) a v a' v' 1 (by simp; omega)).1
  rw [this]

end Go.Proofs.Ytliddinpfgpnfaa
