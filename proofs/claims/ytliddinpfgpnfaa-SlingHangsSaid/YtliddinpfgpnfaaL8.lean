/- The plain law of SlingHoists: a step of the program is a step of the specification. -/
import Derived.Test.YtliddinpfgpnfaaR9
namespace Go.Proofs.Ytliddinpfgpnfaa
open Go.RowKit

theorem car_bear {cable : Int} {X Y : List Int} {V : List (List Int)} {lo hi n W : Int} (h : OnH cable X Y V lo hi) (h0 : 0 ≤ n) (h1 : n ≤ cable) (hW : 0 ≤ W) : carB X Y V lo hi n n W = true ↔ (0 < W → bearB X Y V lo hi n W = true) := by
  by_cases hw : W = 0
  · subst hw; simp [carB]
  · rw [car_low h h0 (Int.le_refl n) h1 (by omega), bear_low h h0 h1]
    constructor
    · intro a _; exact a
    · intro a; exact a (by omega)

theorem do_ref {cable : Int} {X Y : List Int} {V : List (List Int)} {charge lo hi : Int} (h : OnH cable X Y V lo hi) {s : Hg} {k : Nat} (hv : Vd cable k s) (kd n : Int) : doO cable X Y V charge lo hi s kd n = refO cable X Y V charge lo hi s kd n := by
  obtain ⟨l0, l1, w0, s0, s1, c0, c1⟩ := hv
  have hc := h.cab
  have out_iff : ∀ m : Int, (outB cable X Y V lo hi s.L s.W m = true ↔ 0 ≤ s.L + m ∧ s.L + m ≤ cable ∧ (0 < s.W → bearB X Y V lo hi (s.L + m) s.W = true)) := fun m => by
    rw [outB, Bool.and_eq_true, wi_iff']
    constructor
    · rintro ⟨⟨a, b⟩, c⟩; exact ⟨a, b, (car_bear h a b w0).1 c⟩
    · rintro ⟨a, b, c⟩; exact ⟨⟨a, b⟩, (car_bear h a b w0).2 c⟩
  unfold doO refO
  cases s.cut
  · simp only [Bool.false_eq_true, if_false]
    by_cases k1 : kd = 1
    · rw [if_pos k1, if_pos k1]
      have e : ((wi n 1 cable && outB cable X Y V lo hi s.L s.W n) = true) = (1 ≤ n ∧ n ≤ 100 ∧ 0 ≤ s.L + n ∧ s.L + n ≤ cable ∧ (0 < s.W → bearB X Y V lo hi (s.L + n) s.W = true)) := by
        rw [Bool.and_eq_true, out_iff, wi_iff']
        apply propext
        constructor
        · rintro ⟨⟨a, b⟩, c⟩; exact ⟨a, by omega, c⟩
        · rintro ⟨a, b, c, d, e⟩; exact ⟨⟨a, by omega⟩, c, d, e⟩
      simp only [e]
    · rw [if_neg k1, if_neg k1]
      by_cases k2 : kd = 2
      · rw [if_pos k2, if_pos k2]
        have e : ((wi n 1 cable && outB cable X Y V lo hi s.L s.W (-n)) = true) = (1 ≤ n ∧ n ≤ 100 ∧ 0 ≤ s.L - n ∧ s.L - n ≤ cable ∧ (0 < s.W → bearB X Y V lo hi (s.L - n) s.W = true)) := by
          rw [Bool.and_eq_true, out_iff, wi_iff', ← Int.sub_eq_add_neg]
          apply propext
          constructor
          · rintro ⟨⟨a, b⟩, c⟩; exact ⟨a, by omega, c⟩
          · rintro ⟨a, b, c, d, e⟩; exact ⟨⟨a, by omega⟩, c, d, e⟩
        simp only [e, ← Int.sub_eq_add_neg]
      · rw [if_neg k2, if_neg k2]
        by_cases k4 : kd = 4
        · subst k4
          rw [if_pos rfl, if_neg (show ¬ (4 : Int) = 3 by omega), if_pos rfl]
          have e : (s.W ≤ 0 ∧ s.L ≠ 0 ∧ s.t = true ∧ s.S + 1 ≤ charge ∧ wi n 1 100000 = true ∧ carB X Y V lo hi s.L s.L n = true) = (wi n 1 100000 = true ∧ s.W = 0 ∧ 0 < s.L ∧ s.t = true ∧ s.S < charge ∧ bearB X Y V lo hi s.L n = true) := by
            apply propext
            constructor
            · rintro ⟨a, b, c, d, e, f⟩
              have hn := wi_iff'.1 e
              exact ⟨e, by omega, by omega, c, by omega, (car_bear h l0 l1 (by omega)).1 f (by omega)⟩
            · rintro ⟨e, a, b, c, d, f⟩
              have hn := wi_iff'.1 e
              exact ⟨by omega, by omega, c, by omega, e, (car_bear h l0 l1 (by omega)).2 (fun _ => f)⟩
          simp only [e]
        · rw [if_neg k4]
          by_cases hn : n = 0
          · subst hn
            by_cases k3 : kd = 3
            · subst k3; simp
            · by_cases k5 : kd = 5
              · subst k5; simp
              · by_cases k6 : kd = 6
                · subst k6; simp
                · simp [k3, k4, k5, k6]
          · by_cases k3 : kd = 3
            · subst k3; simp [hn]
            · by_cases k5 : kd = 5
              · subst k5; simp [hn]
              · by_cases k6 : kd = 6
                · subst k6; simp [hn]
                · simp [hn, k3, k4, k5, k6]
  · simp

theorem run_ref {cable : Int} {X Y : List Int} {V : List (List Int)} {charge lo hi : Int} (h : OnH cable X Y V lo hi) (l : List (Int × Int)) : ∀ (s : Hg) (k : Nat), Vd cable k s → runO (doO cable X Y V charge lo hi) s k l = runO (refO cable X Y V charge lo hi) s k l := by
  induction l with
  | nil => intro s k _; rfl
  | cons x l ih =>
    intro s k hv
    simp only [runO]
    rw [← do_ref (charge := charge) h hv x.1 x.2]
    cases hd : doO cable X Y V charge lo hi s x.1 x.2 with
    | none => rfl
    | some s' => exact ih s' (k + 1) (doO_valid (by have := h.cab; omega) hv hd)

/-- What the specification's Haul answers. -/
def haulS (cable : Int) (X Y : List Int) (V : List (List Int)) (charge lo hi : Int) (l : List (Int × Int)) : Hg × Int × Int :=
  if windsE cable X Y V charge lo hi = 71 ∨ windsE cable X Y V charge lo hi = 10 then (h0, 0, windsE cable X Y V charge lo hi) else if 100 < l.length then (h0, 0, 2)
  else if windsE cable X Y V charge lo hi ≠ 0 then (h0, 0, windsE cable X Y V charge lo hi) else haulOf (runO (refO cable X Y V charge lo hi) h0 0 l)

theorem vd0 {cable : Int} (h : 0 ≤ cable) : Vd cable 0 h0 := ⟨by decide, h, by decide, by decide, by decide, by decide, by decide⟩

theorem winchE_or (cable : Int) (X Y : List Int) (V : List (List Int)) (charge lo hi : Int) : winchE cable X Y V charge lo hi = 0 ∨ winchE cable X Y V charge lo hi = 10 ∨ winchE cable X Y V charge lo hi = 71 := by
  unfold winchE; split
  · rcases boxE_or [(lo, hi)] with h | h
    · exact Or.inl h
    · exact Or.inr (Or.inl h)
  · exact Or.inr (Or.inr rfl)

theorem haul_eq (cable : Int) (X Y : List Int) (V : List (List Int)) (charge lo hi : Int) (l : List (Int × Int)) : haulR cable X Y V charge lo hi l = haulS cable X Y V charge lo hi l := by
  have hw := winds_winch cable X Y V charge lo hi
  unfold haulR haulS
  rcases winchE_or cable X Y V charge lo hi with h1 | h1 | h1
  · rw [if_neg (by rw [h1]; simp)] at hw
    rw [if_neg (by rw [h1]; simp)]
    cases h2 : liesB Y lo hi
    · rw [h2] at hw
      have hw' : windsE cable X Y V charge lo hi = 1 := by rw [hw]; rfl
      rw [hw', if_neg (c := (1 : Int) = 71 ∨ (1 : Int) = 10) (by omega)]
      simp
    · rw [h2, if_pos rfl] at hw
      rw [hw, if_neg (c := (0 : Int) = 71 ∨ (0 : Int) = 10) (by omega)]
      have hO := windsE_zero hw
      rw [run_ref hO l h0 0 (vd0 (by have := hO.cab; omega))]
      simp
  · rw [if_pos (by rw [h1]; decide)] at hw
    rw [hw, h1]; simp
  · rw [if_pos (by rw [h1]; decide)] at hw
    rw [hw, h1]; simp

end Go.Proofs.Ytliddinpfgpnfaa
